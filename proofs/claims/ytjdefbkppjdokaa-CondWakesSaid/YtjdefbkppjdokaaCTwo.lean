/- metronomelaw16: two pairs of conditions, apart from each other. -/
import Derived.Test.YtjdefbkppjdokaaCDp
import Derived.Test.YtjdefbkppjdokaaRow
namespace Go.Proofs.Ytjdefbkppjdokaa
open Go.RowKit

theorem CB.notW {w : World} {cb ab mb rc rb : Nat} {N M : Int} {L : WL} (h : CB w cb ab mb rc rb N L M) : ∀ k ∈ [cb, ab, mb, rc, rb], NotW w k := by
  have s := h.c.sep h.r
  intro k hk
  simp at hk
  rcases hk with rfl | rfl | rfl | rfl | rfl
  · exact s.2.2.2.1
  · exact s.2.2.2.2.1
  · exact s.2.2.2.2.2
  · exact h.r.notW.1
  · exact h.r.notW.2
theorem CB.lt {w : World} {cb ab mb rc rb : Nat} {N M : Int} {L : WL} (h : CB w cb ab mb rc rb N L M) : ∀ k ∈ [cb, ab, mb, rc, rb], k < w.heap.size := by
  have a := h.c.lt
  have b := h.r.lt
  intro k hk
  simp at hk
  omega
theorem CB.kept {S : List Nat} {w w' : World} {cb ab mb rc rb : Nat} {N M : Int} {L : WL} (h : CB w cb ab mb rc rb N L M) (hC : Chg S w w') (hS : ∀ k ∈ S, NotW w k ∧ ∀ j ∈ [cb, ab, mb, rc, rb], k ≠ j) : CB w' cb ab mb rc rb N L M :=
  ⟨h.c.kept hC (fun hm => (hS _ hm).2 cb (by simp) rfl) (fun hm => (hS _ hm).2 ab (by simp) rfl) (fun hm => (hS _ hm).2 mb (by simp) rfl),
    h.r.kept hC (fun k hk => ⟨(hS k hk).2 rc (by simp), (hS k hk).2 rb (by simp), (hS k hk).1⟩)⟩
theorem CB.calm {w w' : World} {cb ab mb rc rb : Nat} {N M : Int} {L : WL} (h : CB w cb ab mb rc rb N L M) (hC : Chg [] w w') : CB w' cb ab mb rc rb N L M := h.kept hC (by simp)
theorem CB.mono {w : World} {cb ab mb rc rb : Nat} {N N' M : Int} {L : WL} (h : CB w cb ab mb rc rb N L M) (hN : N ≤ N') : CB w cb ab mb rc rb N' L M := ⟨h.c.mono hN, h.r⟩

/-- A pair behind a step, all its blocks above B. -/
theorem cb_step {w W W' : World} {cb ab mb rc rb : Nat} (hG : Chg [] w W) (hge : ∀ k ∈ [cb, ab, mb, rc, rb], w.heap.size ≤ k) {cb' ab' mb' rb' : Nat}
    (ha : (cb' = cb ∧ ab' = ab ∧ mb' = mb) ∨ (W.heap.size ≤ cb' ∧ W.heap.size ≤ ab' ∧ W.heap.size ≤ mb')) (hr : rb' = rb ∨ W.heap.size ≤ rb') (hC : Chg [cb, ab, mb, rc, rb] W W') :
    (∀ k ∈ [cb', ab', mb', rc, rb'], w.heap.size ≤ k) ∧ Chg [] w W' := by
  have hs := hG.size
  refine ⟨fun k hk => ?_, hG.trans' hC (fun k hk => .inr (hge k hk))⟩
  have h1 := hge cb (by simp)
  have h2 := hge ab (by simp)
  have h3 := hge mb (by simp)
  have h4 := hge rc (by simp)
  have h5 := hge rb (by simp)
  simp at hk
  omega

structure CTwo (B : Nat) (W : World) (c1 a1 m1 s1 r1 : Nat) (N1 : Int) (L1 : WL) (M1 : Int) (c2 a2 m2 s2 r2 : Nat) (N2 : Int) (L2 : WL) (M2 : Int) : Prop where
  A : CB W c1 a1 m1 s1 r1 N1 L1 M1
  C : CB W c2 a2 m2 s2 r2 N2 L2 M2
  ne : ∀ x ∈ [c1, a1, m1, s1, r1], ∀ y ∈ [c2, a2, m2, s2, r2], x ≠ y
  ge1 : ∀ x ∈ [c1, a1, m1, s1, r1], B ≤ x
  ge2 : ∀ x ∈ [c2, a2, m2, s2, r2], B ≤ x

theorem CTwo.swap {B : Nat} {W : World} {c1 a1 m1 s1 r1 : Nat} {N1 : Int} {L1 : WL} {M1 : Int} {c2 a2 m2 s2 r2 : Nat} {N2 : Int} {L2 : WL} {M2 : Int} (h : CTwo B W c1 a1 m1 s1 r1 N1 L1 M1 c2 a2 m2 s2 r2 N2 L2 M2) : CTwo B W c2 a2 m2 s2 r2 N2 L2 M2 c1 a1 m1 s1 r1 N1 L1 M1 :=
  ⟨h.C, h.A, fun x hx y hy => (h.ne y hy x hx).symm, h.ge2, h.ge1⟩
theorem CTwo.calm {B : Nat} {W W' : World} {c1 a1 m1 s1 r1 : Nat} {N1 : Int} {L1 : WL} {M1 : Int} {c2 a2 m2 s2 r2 : Nat} {N2 : Int} {L2 : WL} {M2 : Int} (h : CTwo B W c1 a1 m1 s1 r1 N1 L1 M1 c2 a2 m2 s2 r2 N2 L2 M2) (hC : Chg [] W W') : CTwo B W' c1 a1 m1 s1 r1 N1 L1 M1 c2 a2 m2 s2 r2 N2 L2 M2 :=
  ⟨h.A.calm hC, h.C.calm hC, h.ne, h.ge1, h.ge2⟩
theorem CTwo.step {B : Nat} {w W W' : World} {c1 a1 m1 s1 r1 : Nat} {N1 : Int} {L1 : WL} {M1 : Int} {c2 a2 m2 s2 r2 : Nat} {N2 : Int} {L2 : WL} {M2 : Int} (h : CTwo B W c1 a1 m1 s1 r1 N1 L1 M1 c2 a2 m2 s2 r2 N2 L2 M2) (hG : Chg [] w W) (hB : B = w.heap.size)
    {c' a' m' r' : Nat} {N' : Int} {L' : WL} {M' : Int} (ha : (c' = c1 ∧ a' = a1 ∧ m' = m1) ∨ (W.heap.size ≤ c' ∧ W.heap.size ≤ a' ∧ W.heap.size ≤ m')) (hr : r' = r1 ∨ W.heap.size ≤ r') (hW : CB W' c' a' m' s1 r' N' L' M') (hC : Chg [c1, a1, m1, s1, r1] W W') :
    CTwo B W' c' a' m' s1 r' N' L' M' c2 a2 m2 s2 r2 N2 L2 M2 ∧ Chg [] w W' := by
  subst hB
  have hst := cb_step hG h.ge1 ha hr hC
  have lt := h.C.lt
  refine ⟨⟨hW, h.C.kept hC (fun k hk => ⟨h.A.notW k hk, fun j hj => h.ne k hk j hj⟩), fun x hx y hy => ?_, hst.1, h.ge2⟩, hst.2⟩
  have hy1 := lt y hy
  have e1 := h.ne c1 (by simp) y hy
  have e2 := h.ne a1 (by simp) y hy
  have e3 := h.ne m1 (by simp) y hy
  have e4 := h.ne s1 (by simp) y hy
  have e5 := h.ne r1 (by simp) y hy
  simp at hx
  omega

end Go.Proofs.Ytjdefbkppjdokaa
