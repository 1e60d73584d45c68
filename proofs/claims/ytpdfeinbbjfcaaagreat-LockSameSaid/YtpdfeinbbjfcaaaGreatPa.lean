
/- An object that holds a waiting list and a number, as it lies in memory; the document's beside it. -/
import Derived.Test.YtpdfeinbbjfcaaaGreatWo
import Derived.Test.YtpdfeinbbjfcaaaGreatRf
namespace Go.Proofs.YtpdfeinbbjfcaaaGreat
open Go.RowKit

def okTy (T : TypeId) : Prop := T ≠ 75 ∧ T ≠ 46 ∧ T ≠ 91

/-- An object of type T at block cb: its waiting list (blocks ab, mb), and a number. -/
structure PAt (T : TypeId) (w : World) (cb ab mb : Nat) (N : Int) (L : WL) (M : Int) : Prop where
  head : w.heap[cb]? = some (.cells #[.pointer (some ⟨ab, 0, none⟩), .int .i64 M] T (0, 0))
  list : WAt w ab mb N L
  ty : okTy T

theorem blk_ne {w : World} {a b : Nat} {cs ds : Array Value} {T U : TypeId} {fr gr : Nat × Nat} (ha : w.heap[a]? = some (.cells cs T fr)) (hb : w.heap[b]? = some (.cells ds U gr)) (h : T ≠ U) : a ≠ b := by
  rintro rfl
  rw [ha] at hb
  injection hb with hb
  injection hb with _ h2 _
  exact h h2
theorem WAt.ne_of {w : World} {k ab mb : Nat} {N : Int} {L : WL} {cs : Array Value} {T : TypeId} {fr : Nat × Nat} (h : WAt w ab mb N L) (hk : w.heap[k]? = some (.cells cs T fr)) (hT : T ≠ 75) : ab ≠ k ∧ mb ≠ k := by
  obtain ⟨n, L1, h, rfl, hn⟩ := h
  exact ⟨fun e => blk_ne hk h.head hT e.symm, h.map.ne hk⟩

section
variable {T : TypeId}
theorem PAt.kept {S : List Nat} {w w' : World} {cb ab mb : Nat} {N M : Int} {L : WL} (h : PAt T w cb ab mb N L M) (hC : Chg S w w') (hc : cb ∉ S) (ha : ab ∉ S) (hm : mb ∉ S) : PAt T w' cb ab mb N L M :=
  ⟨hC.blk h.head hc, h.list.kept hC ha hm, h.ty⟩
theorem PAt.calm {w w' : World} {cb ab mb : Nat} {N M : Int} {L : WL} (h : PAt T w cb ab mb N L M) (hC : Chg [] w w') : PAt T w' cb ab mb N L M := h.kept hC (by simp) (by simp) (by simp)
theorem PAt.ne {w : World} {cb ab mb : Nat} {N M : Int} {L : WL} (h : PAt T w cb ab mb N L M) : ab ≠ cb ∧ mb ≠ cb := h.list.ne_of h.head h.ty.1
theorem PAt.mono {w : World} {cb ab mb : Nat} {N N' M : Int} {L : WL} (h : PAt T w cb ab mb N L M) (hN : N ≤ N') : PAt T w cb ab mb N' L M := ⟨h.head, h.list.mono hN, h.ty⟩
theorem PAt.lt {w : World} {cb ab mb : Nat} {N M : Int} {L : WL} (h : PAt T w cb ab mb N L M) : cb < w.heap.size ∧ ab < w.heap.size ∧ mb < w.heap.size := ⟨lt_of_blk h.head, h.list.lt.1, h.list.lt.2.1⟩
/-- A step of the list within an object. -/
theorem PAt.step {w w' : World} {cb ab mb : Nat} {N N' M : Int} {L L' : WL} (h : PAt T w cb ab mb N L M) (hW : WAt w' ab mb N' L') (hC : Chg [ab, mb] w w') : PAt T w' cb ab mb N' L' M :=
  ⟨hC.blk h.head (by have := h.ne; simp; omega), hW, h.ty⟩
/-- A store into the number. -/
theorem PAt.put {w : World} {cb ab mb : Nat} {N M : Int} {L : WL} (h : PAt T w cb ab mb N L M) (M' : Int) : PAt T (w.setCell ⟨cb, 1, none⟩ (.int .i64 M')) cb ab mb N L M' ∧ Chg [cb] w (w.setCell ⟨cb, 1, none⟩ (.int .i64 M')) :=
  have hC : Chg [cb] w (w.setCell ⟨cb, 1, none⟩ (.int .i64 M')) := (Chg.refl _ _).setCell _ _ (by simp)
  ⟨⟨blk_setCell h.head _, h.list.kept hC (by have := h.ne; simp; omega) (by have := h.ne; simp; omega), h.ty⟩, hC⟩

/-- The document's object of type T at block rc: a number, and its list at block rb. -/
structure QAt (T : TypeId) (w : World) (rc rb : Nat) (L : WL) (M : Int) : Prop where
  head : w.heap[rc]? = some (.cells #[.int .i64 M, .pointer (some ⟨rb, 0, none⟩)] T (0, 0))
  list : RAt w rb L
  ty : okTy T

theorem QAt.ne {w : World} {rc rb : Nat} {L : WL} {M : Int} (h : QAt T w rc rb L M) : rb ≠ rc := by
  obtain ⟨v, h1, _⟩ := h.list
  exact fun e => blk_ne h.head h1 h.ty.2.1 e.symm
theorem QAt.notW {w : World} {rc rb : Nat} {L : WL} {M : Int} (h : QAt T w rc rb L M) : NotW w rc ∧ NotW w rb := ⟨NotW.of h.head (fun cs fr e => by cases e; exact h.ty.2.2 rfl), h.list.notW⟩
theorem QAt.kept {S : List Nat} {w w' : World} {rc rb : Nat} {L : WL} {M : Int} (h : QAt T w rc rb L M) (hC : Chg S w w') (hS : ∀ k ∈ S, k ≠ rc ∧ k ≠ rb ∧ NotW w k) : QAt T w' rc rb L M :=
  ⟨hC.blk h.head (fun hm => (hS _ hm).1 rfl), h.list.kept hC (fun k hk => (hS k hk).2), h.ty⟩
theorem QAt.calm {w w' : World} {rc rb : Nat} {L : WL} {M : Int} (h : QAt T w rc rb L M) (hC : Chg [] w w') : QAt T w' rc rb L M := h.kept hC (by simp)
theorem QAt.lt {w : World} {rc rb : Nat} {L : WL} {M : Int} (h : QAt T w rc rb L M) : rc < w.heap.size ∧ rb < w.heap.size := ⟨lt_of_blk h.head, h.list.lt⟩
theorem QAt.lstep {w w' : World} {rc rb : Nat} {M : Int} {L L' : WL} (g : QAt T w rc rb L M) (hR : RAt w' rb L') (hC : Chg [rb] w w') : QAt T w' rc rb L' M :=
  ⟨hC.blk g.head (by have := g.ne; simp; omega), hR, g.ty⟩
theorem QAt.put {w : World} {rc rb : Nat} {M : Int} {L : WL} (g : QAt T w rc rb L M) (M' : Int) : QAt T (w.setCell ⟨rc, 0, none⟩ (.int .i64 M')) rc rb L M' ∧ Chg [rc] w (w.setCell ⟨rc, 0, none⟩ (.int .i64 M')) :=
  have hC : Chg [rc] w (w.setCell ⟨rc, 0, none⟩ (.int .i64 M')) := (Chg.refl _ _).setCell _ _ (by simp)
  ⟨⟨blk_setCell g.head _, g.list.kept hC (fun k hk => by simp at hk; subst hk; exact ⟨g.ne.symm, g.notW.1⟩), g.ty⟩, hC⟩
/-- Another list is put in. -/
theorem QAt.swap {w : World} {rc rb r1 : Nat} {M : Int} {L L' : WL} (g : QAt T w rc rb L M) (hR : RAt w r1 L') : QAt T (w.setCell ⟨rc, 1, none⟩ (.pointer (some ⟨r1, 0, none⟩))) rc r1 L' M ∧ Chg [rc] w (w.setCell ⟨rc, 1, none⟩ (.pointer (some ⟨r1, 0, none⟩))) :=
  have hC : Chg [rc] w (w.setCell ⟨rc, 1, none⟩ (.pointer (some ⟨r1, 0, none⟩))) := (Chg.refl _ _).setCell _ _ (by simp)
  have hne : r1 ≠ rc := by
    obtain ⟨v, h1, _⟩ := hR
    exact fun e => blk_ne g.head h1 g.ty.2.1 e.symm
  ⟨⟨blk_setCell g.head _, hR.kept hC (fun k hk => by simp at hk; subst hk; exact ⟨hne.symm, g.notW.1⟩), g.ty⟩, hC⟩
end

section
variable {T U : TypeId} (hTU : T ≠ U)
include hTU
theorem PAt.sep {w : World} {cb ab mb rc rb : Nat} {N M M2 : Int} {L L2 : WL} (h : PAt T w cb ab mb N L M) (g : QAt U w rc rb L2 M2) :
    (cb ≠ rc ∧ cb ≠ rb) ∧ (ab ≠ rc ∧ ab ≠ rb) ∧ (mb ≠ rc ∧ mb ≠ rb) ∧ NotW w cb ∧ NotW w ab ∧ NotW w mb := by
  obtain ⟨v, hr, _⟩ := g.list
  have a1 := h.list.ne_of g.head g.ty.1
  have a2 := h.list.ne_of hr (by decide)
  exact ⟨⟨blk_ne h.head g.head hTU, blk_ne h.head hr h.ty.2.1⟩, ⟨a1.1, a2.1⟩, ⟨a1.2, a2.2⟩, NotW.of h.head (fun cs fr e => by cases e; exact h.ty.2.2 rfl), h.list.notW.1, h.list.notW.2⟩
theorem QAt.cstep {w w' : World} {cb ab mb rc rb : Nat} {N M M2 : Int} {L L2 : WL} (g : QAt U w rc rb L2 M2) (h : PAt T w cb ab mb N L M) (hC : Chg [cb, ab, mb] w w') : QAt U w' rc rb L2 M2 :=
  g.kept hC (fun k hk => by
    have s := h.sep hTU g
    simp at hk
    rcases hk with rfl | rfl | rfl
    · exact ⟨s.1.1, s.1.2, s.2.2.2.1⟩
    · exact ⟨s.2.1.1, s.2.1.2, s.2.2.2.2.1⟩
    · exact ⟨s.2.2.1.1, s.2.2.1.2, s.2.2.2.2.2⟩)
theorem PAt.rstep {w w' : World} {cb ab mb rc rb : Nat} {N M M2 : Int} {L L2 : WL} (h : PAt T w cb ab mb N L M) (g : QAt U w rc rb L2 M2) (hC : Chg [rc, rb] w w') : PAt T w' cb ab mb N L M :=
  h.kept hC (by have := h.sep hTU g; simp; omega) (by have := h.sep hTU g; simp; omega) (by have := h.sep hTU g; simp; omega)
end

/-- The program's object and the document's, side by side. -/
structure PB (T U : TypeId) (w : World) (cb ab mb rc rb : Nat) (N : Int) (L : WL) (M : Int) : Prop where
  c : PAt T w cb ab mb N L M
  r : QAt U w rc rb L M
  ne : T ≠ U

section
variable {T U : TypeId}
theorem PB.notW {w : World} {cb ab mb rc rb : Nat} {N M : Int} {L : WL} (h : PB T U w cb ab mb rc rb N L M) : ∀ k ∈ [cb, ab, mb, rc, rb], NotW w k := by
  have s := h.c.sep h.ne h.r
  intro k hk
  simp at hk
  rcases hk with rfl | rfl | rfl | rfl | rfl
  · exact s.2.2.2.1
  · exact s.2.2.2.2.1
  · exact s.2.2.2.2.2
  · exact h.r.notW.1
  · exact h.r.notW.2
theorem PB.lt {w : World} {cb ab mb rc rb : Nat} {N M : Int} {L : WL} (h : PB T U w cb ab mb rc rb N L M) : ∀ k ∈ [cb, ab, mb, rc, rb], k < w.heap.size := by
  have a := h.c.lt
  have b := h.r.lt
  intro k hk
  simp at hk
  omega
theorem PB.kept {S : List Nat} {w w' : World} {cb ab mb rc rb : Nat} {N M : Int} {L : WL} (h : PB T U w cb ab mb rc rb N L M) (hC : Chg S w w') (hS : ∀ k ∈ S, NotW w k ∧ ∀ j ∈ [cb, ab, mb, rc, rb], k ≠ j) : PB T U w' cb ab mb rc rb N L M :=
  ⟨h.c.kept hC (fun hm => (hS _ hm).2 cb (by simp) rfl) (fun hm => (hS _ hm).2 ab (by simp) rfl) (fun hm => (hS _ hm).2 mb (by simp) rfl),
    h.r.kept hC (fun k hk => ⟨(hS k hk).2 rc (by simp), (hS k hk).2 rb (by simp), (hS k hk).1⟩), h.ne⟩
theorem PB.calm {w w' : World} {cb ab mb rc rb : Nat} {N M : Int} {L : WL} (h : PB T U w cb ab mb rc rb N L M) (hC : Chg [] w w') : PB T U w' cb ab mb rc rb N L M := h.kept hC (by simp)
theorem PB.mono {w : World} {cb ab mb rc rb : Nat} {N N' M : Int} {L : WL} (h : PB T U w cb ab mb rc rb N L M) (hN : N ≤ N') : PB T U w cb ab mb rc rb N' L M := ⟨h.c.mono hN, h.r, h.ne⟩
end

/-- A pair behind a step, all its blocks as new as before. -/
theorem pb_step {w W W' : World} {cb ab mb rc rb : Nat} (hG : Chg [] w W) (hge : ∀ k ∈ [cb, ab, mb, rc, rb], w.heap.size ≤ k) {cb' ab' mb' rb' : Nat}
    (ha : (cb' = cb ∧ ab' = ab ∧ mb' = mb) ∨ (W.heap.size ≤ cb' ∧ W.heap.size ≤ ab' ∧ W.heap.size ≤ mb')) (hr : rb' = rb ∨ W.heap.size ≤ rb') (hC : Chg [cb, ab, mb, rc, rb] W W') :
    (∀ k ∈ [cb', ab', mb', rc, rb'], w.heap.size ≤ k) ∧ Chg [] w W' := by
  have hs := hG.size
  refine ⟨fun k hk => ?_, hG.trans' hC (fun k hk => .inr (hge k hk))⟩
  have h1 := hge cb (by simp)
  have h2 := hge ab (by simp)
  have h3 := hge mb (by simp)
  have h4 := hge rc (by simp)
  have h5 := hge rb (by simp)
  simp at hk
  omega

/-- What a step leaves: the same object, or a copy of it. -/
def PDoP (T U : TypeId) (cb ab mb rc rb : Nat) (N : Int) (L' : WL) (M' : Int) (w : World) (e : Ending) (w' : World) : Prop :=
  ∃ cb' ab' mb' rb', e = .returned (.tuple #[.pointer (some ⟨cb', 0, none⟩), .pointer (some ⟨rc, 0, none⟩), .bool true]) ∧ ((cb' = cb ∧ ab' = ab ∧ mb' = mb) ∨ (w.heap.size ≤ cb' ∧ w.heap.size ≤ ab' ∧ w.heap.size ≤ mb')) ∧ (rb' = rb ∨ w.heap.size ≤ rb') ∧
    PB T U w' cb' ab' mb' rc rb' N L' M' ∧ Chg [cb, ab, mb, rc, rb] w w'

theorem PB.fin {T U : TypeId} {cb ab mb rc rb rb' : Nat} {N N2 M : Int} {L2 : WL} {w WW w1 w2 : World} {M1 : Int} {L : WL} (hN : N2 ≤ N) (h0 : Chg [] w WW) (hne : T ≠ U) (hg : QAt U w1 rc rb L M1) (hW1 : PAt T w1 cb ab mb N2 L2 M) (hC1 : Chg [cb, ab, mb] WW w1) (hR2 : QAt U w2 rc rb' L2 M) (hC2 : Chg [rc, rb] w1 w2) :
    PB T U w2 cb ab mb rc rb' N L2 M ∧ Chg [cb, ab, mb, rc, rb] w w2 :=
  ⟨⟨(hW1.rstep hne hg hC2).mono hN, hR2, hne⟩, ((h0.mono (by simp)).trans (hC1.mono (by simp))).trans (hC2.mono (by simp))⟩

end Go.Proofs.YtpdfeinbbjfcaaaGreat
