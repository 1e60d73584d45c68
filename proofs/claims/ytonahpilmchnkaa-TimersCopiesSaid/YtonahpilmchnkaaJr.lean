
/- Timers: what stands between the rounds of Due. -/
import Derived.Test.YtonahpilmchnkaaJf
import Derived.Test.YtonahpilmchnkaaJk
namespace Go.Proofs.Ytonahpilmchnkaa
open Go.RowKit

/-- Between Due's rounds. -/
structure DueR (w : World) (b : Nat) (bs : Int → Nat) (vs : Int → List Value) (s' : TS) (out : List Int) (v : Value) (a : Option Addr) (l : List Int) (nb : Nat) (now : Int) (w' : World) : Prop where
  at_ : ∃ vs', TAt w' b bs vs' s' ∧ (∀ x ∈ blocksT b bs vs', x ∈ blocksT b bs vs ∨ w.heap.size ≤ x) ∧ (∀ x ∈ v.ownBlock.toList, x ∉ blocksT b bs vs') ∧ (∀ g, a = some ⟨g, 0, none⟩ → g ∉ blocksT b bs vs') ∧ nb ∉ blocksT b bs vs'
  own : w'.ownsRow w.heap.size 3 1 v out.length (out.map (Value.int .i64))
  ints : IntsAt w' a l
  num : w'.heap[nb]? = some (int64B now)
  chg : Chg (blocksT b bs vs) w w'
  lt : nb < w'.heap.size ∧ w.heap.size ≤ nb ∧ nb ∉ v.ownBlock.toList
  la : ∀ g, a = some ⟨g, 0, none⟩ → g < w'.heap.size ∧ w.heap.size ≤ g ∧ g ∉ v.ownBlock.toList ∧ g ≠ nb

def PDueP (b : Nat) (bs : Int → Nat) (vs : Int → List Value) (s' : TS) (out : List Int) (w : World) (e : Ending) (w' : World) : Prop :=
  ∃ v vs', e = .returned v ∧ w'.ownsRow w.heap.size 3 1 v out.length (out.map (Value.int .i64)) ∧ TAt w' b bs vs' s' ∧ Chg (blocksT b bs vs) w w' ∧ (∀ x ∈ blocksT b bs vs', x ∈ blocksT b bs vs ∨ w.heap.size ≤ x) ∧ (∀ x ∈ v.ownBlock.toList, x ∉ blocksT b bs vs')

theorem IntsAt.kept {S : List Nat} {w w' : World} {a : Option Addr} {l : List Int} (h : IntsAt w a l) (hC : Chg S w w') (hn : ∀ g, a = some ⟨g, 0, none⟩ → g ∉ S) : IntsAt w' a l := by
  rcases h with h | ⟨g, e, h⟩
  · exact .inl h
  · exact .inr ⟨g, e, fun j x hj => cell_kept (h j x hj) hC (hn g e)⟩

section
variable {w w1 w2 : World} {b : Nat} {bs : Int → Nat} {vs : Int → List Value} {s s' : TS} {out : List Int} {v : Value} {a : Option Addr} {l : List Int} {nb : Nat} {now : Int}
theorem DueR.step (h : DueR w b bs vs s out v a l nb now w1) (hN : ∀ vs', TAt w1 b bs vs' s → NextT b bs vs' s' w1 w2) : DueR w b bs vs s' out v a l nb now w2 := by
  obtain ⟨vs1, hT, hB, hv, ha, hn⟩ := h.at_
  obtain ⟨vs2, hT2, hC2, hB2⟩ := hN vs1 hT
  have hs1 := h.chg.size
  have hs2 := hC2.size
  refine ⟨⟨vs2, hT2, fun x hx => ?_, fun x hx hm => ?_, fun g e hm => ?_, fun hm => ?_⟩, own_kept h.own hC2 (fun x hx hm => hv x hm hx), h.ints.kept hC2 ha, hC2.blk h.num hn, h.chg.trans' hC2 hB, ⟨by have := h.lt.1; omega, h.lt.2⟩, fun g e => ⟨by have := (h.la g e).1; omega, (h.la g e).2⟩⟩
  · rcases hB2 x hx with h1 | h1
    · exact hB x h1
    · exact .inr (by omega)
  · rcases hB2 x hm with h1 | h1
    · exact hv x hx h1
    · have := (h.own.lt x (by simpa using hx)).2
      omega
  · rcases hB2 g hm with h1 | h1
    · exact ha g e h1
    · have := (h.la g e).1
      omega
  · rcases hB2 nb hm with h1 | h1
    · exact hn h1
    · have := h.lt.1
      omega
theorem DueR.calm (h : DueR w b bs vs s out v a l nb now w1) (hC : Chg [] w1 w2) : DueR w b bs vs s out v a l nb now w2 :=
  h.step fun _ hT => (NextT.refl hT).calm hC
theorem DueR.put (h : DueR w b bs vs s out v a l nb now w1) {i : Nat} {e : TE} (he : s.L[i]? = some e) {f : Nat} (hf : f < 7) {u : Value} (e' : TE) (hv : e.cells.set f u = e'.cells) :
    DueR w b bs vs ⟨s.n, s.L.set i e', s.W⟩ out v a l nb now (w1.setCell ⟨b, 3 + i * 7 + f, none⟩ u) := h.step fun _ hT => (NextT.refl hT).put he hf hv
theorem DueR.four (h : DueR w b bs vs s out v a l nb now w1) {i : Nat} {e : TE} (he : s.L[i]? = some e) (q : Bool) (c t x : Int) :
    DueR w b bs vs ⟨s.n, s.L.set i ⟨q, c, t, x, e.out, e.cnt, e.ovr⟩, s.W⟩ out v a l nb now ((((w1.setCell ⟨b, 3 + i * 7, none⟩ (.bool q)).setCell ⟨b, 3 + i * 7 + 1, none⟩ (.int .i64 c)).setCell ⟨b, 3 + i * 7 + 2, none⟩ (.int .i64 t)).setCell ⟨b, 3 + i * 7 + 3, none⟩ (.int .i64 x)) := h.step fun _ hT => (NextT.refl hT).four he q c t x
theorem DueR.setc (h : DueR w b bs vs s out v a l nb now w1) {k : Int} (hk : isC k) (n t : Int) (hc : (s.W k).c < 4611686018427387904) :
    Calls Try.prog 27 #[.pointer (some ⟨bs k, 0, none⟩), .int .i64 n, .int .i64 t] w1 fun e w3 => e = .returned (.int .i64 (HS.setE n t)) ∧ DueR w b bs vs ⟨s.n, s.L, updW s.W k ((s.W k).setS n t)⟩ out v a l nb now w3 := by
  obtain ⟨vs1, hT, hB, hv, ha, hn⟩ := h.at_
  refine ((NextT.refl hT).setc hk n t hc).mono ?_
  rintro e w3 ⟨he, vs2, hT2, hC2, hB2⟩
  have hs1 := h.chg.size
  have hs2 := hC2.size
  refine ⟨he, ⟨vs2, hT2, fun x hx => ?_, fun x hx hm => ?_, fun g e hm => ?_, fun hm => ?_⟩, own_kept h.own hC2 (fun x hx hm => hv x hm hx), h.ints.kept hC2 ha, hC2.blk h.num hn, h.chg.trans' hC2 hB, ⟨by have := h.lt.1; omega, h.lt.2⟩, fun g e => ⟨by have := (h.la g e).1; omega, (h.la g e).2⟩⟩
  · rcases hB2 x hx with h1 | h1
    · exact hB x h1
    · exact .inr (by omega)
  · rcases hB2 x hm with h1 | h1
    · exact hv x hx h1
    · have := (h.own.lt x (by simpa using hx)).2
      omega
  · rcases hB2 g hm with h1 | h1
    · exact ha g e h1
    · have := (h.la g e).1
      omega
  · rcases hB2 nb hm with h1 | h1
    · exact hn h1
    · have := h.lt.1
      omega
theorem DueR.push (h : DueR w b bs vs s out v a l nb now w1) (x : Int) {v' : Value} (ho : w2.ownsRow w.heap.size 3 1 v' (out.length + 1) (out.map (Value.int .i64) ++ [.int .i64 x])) (hC1 : Chg v.ownBlock.toList w1 w2)
    (hl : v'.ownBlock = v.ownBlock ∨ ∃ k, w1.heap.size ≤ k ∧ v'.ownBlock = some k) : DueR w b bs vs s (out ++ [x]) v' a l nb now w2 := by
  have hs1 := h.chg.size
  have hs2 := hC1.size
  obtain ⟨vs1, hT, hB, hv, ha, hn⟩ := h.at_
  refine ⟨⟨vs1, hT.kept hC1 hv, hB, fun y hy hm => ?_, ha, hn⟩, ?_, h.ints.kept hC1 (fun g e => (h.la g e).2.2.1), hC1.blk h.num h.lt.2.2, h.chg.trans' hC1 (fun y hy => .inr (own_ge h.own y hy)), ⟨by have := h.lt.1; omega, h.lt.2.1, fun hm => ?_⟩, fun g e => ⟨by have := (h.la g e).1; omega, (h.la g e).2.1, fun hm => ?_, (h.la g e).2.2.2⟩⟩
  · rcases hl with e | ⟨k, hk, e⟩
    · rw [e] at hy; exact hv y hy hm
    · rw [e] at hy
      simp at hy
      subst hy
      have := hT.lt y hm
      omega
  · rw [List.length_append, List.map_append]
    exact ho
  · rcases hl with e | ⟨k, hk, e⟩
    · rw [e] at hm; exact h.lt.2.2 hm
    · rw [e] at hm
      simp at hm
      have := h.lt.1
      omega
  · rcases hl with e1 | ⟨k, hk, e1⟩
    · rw [e1] at hm; exact (h.la g e).2.2.1 hm
    · rw [e1] at hm
      simp at hm
      have := (h.la g e).1
      omega
theorem DueR.cells (h : DueR w b bs vs s out v a l nb now w1) {i : Nat} {e : TE} (he : s.L[i]? = some e) :
    (w1.cell? ⟨b, 3 + i * 7, none⟩ = some (.bool e.armed) ∧ w1.cell? ⟨b, 3 + i * 7 + 1, none⟩ = some (.int .i64 e.clock) ∧ w1.cell? ⟨b, 3 + i * 7 + 2, none⟩ = some (.int .i64 e.at_) ∧ w1.cell? ⟨b, 3 + i * 7 + 3, none⟩ = some (.int .i64 e.iv) ∧ w1.cell? ⟨b, 3 + i * 7 + 4, none⟩ = some (.bool e.out) ∧ w1.cell? ⟨b, 3 + i * 7 + 5, none⟩ = some (.int .i64 e.cnt) ∧ w1.cell? ⟨b, 3 + i * 7 + 6, none⟩ = some (.int .i64 e.ovr)) ∧ (∀ j : Nat, w1.frozen? ⟨b, j, none⟩ = false) := by
  obtain ⟨vs1, hT, _⟩ := h.at_
  exact hT.cells7 he
theorem DueR.cw (h : DueR w b bs vs s out v a l nb now w1) {k : Nat} (hk : k < 2) : w1.cell? ⟨b, 1 + k, none⟩ = some (.pointer (some ⟨bs k, 0, none⟩)) := by
  obtain ⟨vs1, hT, _⟩ := h.at_
  exact hT.cw hk
end
theorem due1_A {k now : Int} {p : TS × List Int} {i : Nat} {e : TE} (hg : p.1.L[i]? = some e) {m : Int} (hm : m = e.often now) (hA : 0 < e.iv ∧ e.at_ + m * e.iv ≤ 1099511627776) :
    TS.due1 k now p (i : Int) = (⟨p.1.n, p.1.L.set i ⟨e.armed, e.clock, e.at_ + m * e.iv, e.iv, true, min (e.cnt + (if e.out then m else m - 1)) 32767, e.ovr⟩, updW p.1.W k ((p.1.W k).setS i (e.at_ + m * e.iv))⟩, if e.out then p.2 else p.2 ++ [(i : Int)]) := by
  subst hm
  unfold TS.due1
  rw [Int.toNat_natCast, hg]
  dsimp only
  rw [TE.dueE_A hA]
  unfold TE.dueW
  rw [if_pos hA]
theorem due1_B {k now : Int} {p : TS × List Int} {i : Nat} {e : TE} (hg : p.1.L[i]? = some e) {m : Int} (hm : m = e.often now) (hA : ¬ (0 < e.iv ∧ e.at_ + m * e.iv ≤ 1099511627776)) :
    TS.due1 k now p (i : Int) = (⟨p.1.n, p.1.L.set i ⟨false, 0, 0, 0, true, min (e.cnt + (if e.out then m else m - 1)) 32767, e.ovr⟩, p.1.W⟩, if e.out then p.2 else p.2 ++ [(i : Int)]) := by
  subst hm
  have hup : updW p.1.W k (p.1.W k) = p.1.W := by
    funext j
    by_cases e1 : j = k
    · subst e1; rw [updW_same]
    · rw [updW_other e1]
  unfold TS.due1
  rw [Int.toNat_natCast, hg]
  dsimp only
  rw [TE.dueE_B hA]
  unfold TE.dueW
  rw [if_neg hA, hup]

theorem wrap_le {x : Int} (h0 : 0 ≤ x) (h1 : x ≤ 4611686018427387904) : wrap64 x = x := by unfold wrap64; omega
theorem wrap_succ {j N : Nat} (h : j < N) (hN : N ≤ 64) : wrap64 ((j : Int) + 1) = ((j + 1 : Nat) : Int) := by
  rw [wrap_le (by omega) (by omega)]
  rfl
theorem meas_succ {j N : Nat} (h : j < N) (hN : N ≤ 64) : N - (intOf (.int .i64 (wrap64 ((j : Int) + 1)))).toNat < N - (intOf (.int .i64 (j : Int))).toNat := by
  rw [wrap_succ h hN]
  simp only [intOf]
  omega

end Go.Proofs.Ytonahpilmchnkaa
