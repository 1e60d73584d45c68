
/- metronomelaw19: does: contract. -/
import Derived.Test.YtonahpilmchnkaaGc
namespace Go.Proofs.Ytonahpilmchnkaa
open Go.RowKit

def TS.stepS (s : TS) (kd id c t v : Int) : TS := if kd = 1 then s.armS id c t v else if kd = 2 then s.stopS id else if kd = 3 then s.dueS c t else if kd = 4 then s.takenS id else if kd = 5 then s.clearS id else s
theorem TInv.stepS {s : TS} (h : TInv s) (kd id c t v : Int) : TInv (s.stepS kd id c t v) := by
  unfold TS.stepS
  split
  · exact h.armS _ _ _ _
  · split
    · exact h.stopS _
    · split
      · exact h.dueS _ _
      · split
        · exact h.takenS _
        · split
          · exact h.clearS _
          · exact h
theorem armS_c (s : TS) (id c t v k : Int) : ((s.armS id c t v).W k).c ≤ (s.W k).c + 1 := by
  unfold TS.armS
  split
  · have h1 := TS.rests_c s id.toNat k
    unfold TS.arms
    split
    · omega
    · dsimp only
      by_cases e : k = c
      · subst e
        rw [updW_same]
        have := setS_le ((s.rests id.toNat).W k) (id.toNat : Int) t
        omega
      · rw [updW_other e]
        omega
  · omega
theorem stopS_c (s : TS) (id k : Int) : ((s.stopS id).W k).c = (s.W k).c := by
  unfold TS.stopS
  split
  · exact TS.rests_c s id.toNat k
  · rfl
theorem clearS_c (s : TS) (id k : Int) : ((s.clearS id).W k).c = (s.W k).c := by
  unfold TS.clearS
  split
  · exact TS.rests_c s id.toNat k
  · rfl
theorem takenS_c (s : TS) (id k : Int) : ((s.takenS id).W k).c = (s.W k).c := by
  unfold TS.takenS
  split
  · split <;> rfl
  · rfl
theorem dueL_few {s : TS} (h : TInv s) {c : Int} (hc : isC c) (now : Int) : ((s.W c).dueL now).length ≤ 64 := by
  unfold HS.dueL
  rw [List.length_map, ordH_len]
  exact Nat.le_trans (List.length_filter_le _ _) (h.wh c hc).few
theorem dueS_c {s : TS} (h : TInv s) (c t k : Int) : ((s.dueS c t).W k).c ≤ (s.W k).c + 64 := by
  unfold TS.dueS
  split
  · rename_i hh
    have h1 := dueF_c c t ((s.W c).dueL t) k (⟨s.n, s.L, updW s.W c ((s.W c).dueS t)⟩, [])
    have h2 := dueL_few h hh.1 t
    have h3 : ((updW s.W c ((s.W c).dueS t)) k).c = (s.W k).c := by
      by_cases e : k = c
      · subst e; rw [updW_same]; rfl
      · rw [updW_other e]
    unfold TS.dueF
    have h1' : (((((s.W c).dueL t).foldl (TS.due1 c t) (⟨s.n, s.L, updW s.W c ((s.W c).dueS t)⟩, [])).1).W k).c ≤ ((updW s.W c ((s.W c).dueS t)) k).c + ((s.W c).dueL t).length := h1
    omega
  · omega
theorem dueL_len {s : TS} (h : TInv s) (c t : Int) : (s.dueL c t).length ≤ 64 := by
  unfold TS.dueL
  split
  · rename_i hh
    have h1 := dueF_out_le c t ((s.W c).dueL t) (⟨s.n, s.L, updW s.W c ((s.W c).dueS t)⟩, [])
    have h2 := dueL_few h hh.1 t
    unfold TS.dueF
    simp at h1
    omega
  · simp

/-- Both, the program's timers at b and the document's at rb, stand so. -/
structure PB (w : World) (b : Nat) (bs : Int → Nat) (vs : Int → List Value) (rb : Nat) (s : TS) (q : Int) : Prop where
  p : TAt w b bs vs s
  r : ∃ Z nw, RAt w rb s.n s.L Z nw ∧ LinkT s Z nw ∧ nw ≤ q
  ne : rb ∉ blocksT b bs vs
  inv : TInv s
  cnt : ∀ k, isC k → (s.W k).c ≤ q
theorem PB.kept {S : List Nat} {w w' : World} {b : Nat} {bs : Int → Nat} {vs : Int → List Value} {rb : Nat} {s : TS} {q : Int} (h : PB w b bs vs rb s q) (hC : Chg S w w') (hS : ∀ x ∈ S, x ∉ blocksT b bs vs ∧ x ≠ rb) : PB w' b bs vs rb s q := by
  obtain ⟨Z, nw, hR, hL, hq⟩ := h.r
  exact ⟨h.p.kept hC (fun x hx => (hS x hx).1), ⟨Z, nw, hR.kept hC (fun hm => (hS rb hm).2 rfl), hL, hq⟩, h.ne, h.inv, h.cnt⟩
theorem PB.calm {w w' : World} {b : Nat} {bs : Int → Nat} {vs : Int → List Value} {rb : Nat} {s : TS} {q : Int} (h : PB w b bs vs rb s q) (hC : Chg [] w w') : PB w' b bs vs rb s q := h.kept hC (by simp)
theorem PB.more {w : World} {b : Nat} {bs : Int → Nat} {vs : Int → List Value} {rb : Nat} {s : TS} {q q' : Int} (h : PB w b bs vs rb s q) (hq : q ≤ q') : PB w b bs vs rb s q' := by
  obtain ⟨Z, nw, hR, hL, h1⟩ := h.r
  exact ⟨h.p, ⟨Z, nw, hR, hL, by omega⟩, h.ne, h.inv, fun k hk => by have := h.cnt k hk; omega⟩
/-- Behind a step of both. -/
def StT (b : Nat) (bs : Int → Nat) (vs : Int → List Value) (rb : Nat) (s' : TS) (q : Int) (w w' : World) : Prop :=
  ∃ vs', PB w' b bs vs' rb s' q ∧ Chg (rb :: blocksT b bs vs) w w' ∧ (∀ x ∈ blocksT b bs vs', x ∈ blocksT b bs vs ∨ w.heap.size ≤ x)
theorem StT.refl {w : World} {b : Nat} {bs : Int → Nat} {vs : Int → List Value} {rb : Nat} {s : TS} {q : Int} (h : PB w b bs vs rb s q) : StT b bs vs rb s q w w := ⟨vs, h, Chg.refl _ _, fun _ hx => .inl hx⟩
theorem StT.calm {w w1 w2 : World} {b : Nat} {bs : Int → Nat} {vs : Int → List Value} {rb : Nat} {s : TS} {q : Int} (h : StT b bs vs rb s q w w1) (hC : Chg [] w1 w2) : StT b bs vs rb s q w w2 := by
  obtain ⟨vs', hP, hC1, hB⟩ := h
  exact ⟨vs', hP.calm hC, hC1.trans (hC.mono (by simp)), hB⟩
theorem StT.from_ {w w1 w2 : World} {b : Nat} {bs : Int → Nat} {vs : Int → List Value} {rb : Nat} {s : TS} {q : Int} (hC : Chg [] w w1) (h : StT b bs vs rb s q w1 w2) : StT b bs vs rb s q w w2 := by
  obtain ⟨vs', hP, hC1, hB⟩ := h
  exact ⟨vs', hP, (hC.mono (by simp)).trans hC1, fun x hx => (hB x hx).imp (fun h => h) (fun h => Nat.le_trans hC.size h)⟩
theorem PB.both {w w2 w3 : World} {b : Nat} {bs : Int → Nat} {vs : Int → List Value} {rb : Nat} {s s' : TS} {q q' : Int} (h : PB w b bs vs rb s q) (hN : NextT b bs vs s' w w2) {Z : List Int} {nw : Int} (hR : RAt w3 rb s'.n s'.L Z nw) (hL : LinkT s' Z nw) (hq : nw ≤ q')
    (hC3 : Chg [rb] w2 w3) (hI : TInv s') (hc : ∀ k, isC k → (s'.W k).c ≤ q') : StT b bs vs rb s' q' w w3 := by
  obtain ⟨vs', hT, hC, hB⟩ := hN
  have hrb : rb < w.heap.size := by obtain ⟨Z0, n0, hR0, _⟩ := h.r; exact lt_of_blk hR0.head
  have hne : rb ∉ blocksT b bs vs' := fun hm => by
    rcases hB rb hm with h1 | h1
    · exact h.ne h1
    · omega
  refine ⟨vs', ⟨hT.kept hC3 (fun x hx => by simp at hx; subst hx; exact hne), ⟨Z, nw, hR, hL, hq⟩, hne, hI, hc⟩, (hC.mono (fun x hx => .inl (List.mem_cons_of_mem _ hx))).trans (hC3.mono (by simp)), hB⟩

end Go.Proofs.Ytonahpilmchnkaa
