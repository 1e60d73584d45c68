
/- metronomelaw19: known: contract. -/
import Derived.Test.YtonahpilmchnkaaJm
namespace Go.Proofs.Ytonahpilmchnkaa
open Go.RowKit

/-- Timers of one's own: made since w. -/
structure KT (w : World) (b : Nat) (bs : Int → Nat) (vs : Int → List Value) (s : TS) (w' : World) : Prop where
  at_ : TAt w' b bs vs s
  inv : TInv s
  cnt : ∀ k, isC k → (s.W k).c < 4611686018427387000
  chg : Chg [] w w'
  own : ∀ x ∈ blocksT b bs vs, w.heap.size ≤ x
theorem KT.next {w w1 w2 : World} {b : Nat} {bs : Int → Nat} {vs : Int → List Value} {s s' : TS} (h : KT w b bs vs s w1) (hI : TInv s') (hc : ∀ k, isC k → (s'.W k).c < 4611686018427387000) (hN : NextT b bs vs s' w1 w2) : ∃ vs', KT w b bs vs' s' w2 := by
  obtain ⟨vs', hA, hC, hB⟩ := hN
  refine ⟨vs', hA, hI, hc, h.chg.trans' hC (fun x hx => .inr (h.own x hx)), fun x hx => ?_⟩
  rcases hB x hx with h1 | h1
  · exact h.own x h1
  · exact Nat.le_trans h.chg.size h1
theorem KT.calm {w w1 w2 : World} {b : Nat} {bs : Int → Nat} {vs : Int → List Value} {s : TS} (h : KT w b bs vs s w1) (hC : Chg [] w1 w2) : KT w b bs vs s w2 := ⟨h.at_.calm hC, h.inv, h.cnt, h.chg.trans hC, h.own⟩
theorem KT.due {w w1 w2 : World} {b : Nat} {bs : Int → Nat} {vs : Int → List Value} {s s' : TS} {l : List Int} {e : Ending} (h : KT w b bs vs s w1) (hI : TInv s') (hc : ∀ k, isC k → (s'.W k).c < 4611686018427387000) (hN : PDueP b bs vs s' l w1 e w2) :
    ∃ a cap vs', e = .returned (.slice a l.length cap) ∧ IntsAt w2 a l ∧ KT w b bs vs' s' w2 := by
  obtain ⟨v, vs', he, ho, hA, hC, hB, _⟩ := hN
  obtain ⟨a, cap, rfl, hI1⟩ := IntsAt.of_own ho rfl
  refine ⟨a, cap, vs', he, hI1, hA, hI, hc, h.chg.trans' hC (fun x hx => .inr (h.own x hx)), fun x hx => ?_⟩
  rcases hB x hx with h1 | h1
  · exact h.own x h1
  · exact Nat.le_trans h.chg.size h1
theorem KT.new {w w' : World} {n : Int} {e : Ending} (hn : 1 ≤ n ∧ n ≤ 8) (h : NewTP w n e w') : ∃ b bs, e = .returned (.tuple #[.pointer (some ⟨b, 0, none⟩), .int .i64 0]) ∧ KT w b bs (fun _ => vs0) (ts0 n.toNat) w' := by
  obtain ⟨b, bs, he, hA, hB, hC⟩ := h
  exact ⟨b, bs, he, hA, TInv.new _ (by omega) (by omega), fun k _ => by show (0 : Int) < _; decide, hC, hB⟩

theorem cc2 {s : TS} (h0 : (s.W 0).c < 4611686018427387000) (h1 : (s.W 1).c < 4611686018427387000) : ∀ k, isC k → (s.W k).c < 4611686018427387000 := fun k hk => by
  rcases hk with rfl | rfl
  · exact h0
  · exact h1
theorem cc3 {s : TS} (h : ∀ k, isC k → (s.W k).c < 4611686018427387000) : ∀ k, isC k → (s.W k).c < 4611686018427387904 := fun k hk => Int.lt_trans (h k hk) (by decide)

def q0 : TS := ts0 2
def q1 : TS := q0.armS 0 1 10 4
def q2 : TS := q1.armS 1 1 12 0
def q3 : TS := q2.dueS 1 9
def q4 : TS := q3.dueS 1 13
def q5 : TS := q4.dueS 1 30
def q6 : TS := q5.takenS 0
def q7 : TS := q6.takenS 0
def q8 : TS := q7.dueS 1 34
def q9 : TS := q8.armS 2 0 1 0
def q10 : TS := q9.armS 0 2 1 0

set_option maxRecDepth 100000 in
set_option maxHeartbeats 4000000 in
theorem knownc (w : World) : Calls Try.prog 8 #[] w fun e w' => e = .returned (.bool true) ∧ Chg [] w w' := by
  go_enter Try.func8, Try.ntmps8
  go_wp2_with fail
  refine (pnewc 2 w (by decide)).mono ?_
  rintro e w0 hN
  obtain ⟨b, bs, rfl, h0⟩ := KT.new (by decide) hN
  have H0 := Lib.hid (show KT w b bs (fun _ => vs0) q0 w0 from h0)
  clear hN h0
  go_wp2_with fail
  refine (parmc b bs _ q0 0 1 10 4 w0 H0.out.at_ (fun i e he ha => (H0.out.inv.on i e he ha).2.1) (cc3 H0.out.cnt)).mono ?_
  rintro e w1 ⟨rfl, hN⟩
  obtain ⟨vs1, hk⟩ := H0.out.next (H0.out.inv.armS 0 1 10 4) (cc2 (of_decide_eq_true (by kernel_rfl)) (of_decide_eq_true (by kernel_rfl))) hN
  have H1 := Lib.hid (show KT w b bs vs1 q1 w1 from hk)
  clear hN hk
  rw [show TS.armE q0 0 1 10 4 = 0 from by kernel_rfl]
  go_wp2_with fail
  refine (parmc b bs _ q1 1 1 12 0 w1 H1.out.at_ (fun i e he ha => (H1.out.inv.on i e he ha).2.1) (cc3 H1.out.cnt)).mono ?_
  rintro e w2 ⟨rfl, hN⟩
  obtain ⟨vs2, hk⟩ := H1.out.next (H1.out.inv.armS 1 1 12 0) (cc2 (of_decide_eq_true (by kernel_rfl)) (of_decide_eq_true (by kernel_rfl))) hN
  have H2 := Lib.hid (show KT w b bs vs2 q2 w2 from hk)
  clear hN hk
  rw [show TS.armE q1 1 1 12 0 = 0 from by kernel_rfl]
  go_wp2_with fail
  refine (pduec b bs _ q2 1 9 w2 H2.out.at_ H2.out.inv H2.out.cnt).mono ?_
  rintro e w3 hN
  obtain ⟨a3, cap3, vs3, rfl, hI, hk⟩ := H2.out.due (H2.out.inv.dueS 1 9) (cc2 (of_decide_eq_true (by kernel_rfl)) (of_decide_eq_true (by kernel_rfl))) hN
  have H3 := Lib.hid (show KT w b bs vs3 q3 w3 from hk)
  rw [show TS.dueL q2 1 9 = [] from by kernel_rfl] at hI
  have I3 := Lib.hid hI
  clear hN hk hI
  rw [show TS.dueL q2 1 9 = [] from by kernel_rfl]
  go_wp2_with fail
  refine (pduec b bs _ q3 1 13 w3 H3.out.at_ H3.out.inv H3.out.cnt).mono ?_
  rintro e w4 hN
  obtain ⟨a4, cap4, vs4, rfl, hI, hk⟩ := H3.out.due (H3.out.inv.dueS 1 13) (cc2 (of_decide_eq_true (by kernel_rfl)) (of_decide_eq_true (by kernel_rfl))) hN
  have H4 := Lib.hid (show KT w b bs vs4 q4 w4 from hk)
  rw [show TS.dueL q3 1 13 = [0, 1] from by kernel_rfl] at hI
  have I4 := Lib.hid hI
  clear hN hk hI
  rw [show TS.dueL q3 1 13 = [0, 1] from by kernel_rfl]
  go_wp2_with fail
  have hI2 : IntsAt (w4.alloc (.cells #[.int .i64 0, .int .i64 1] 3 (0, 0))) (some ⟨w4.heap.size, 0, none⟩) [0, 1] := .inr ⟨_, rfl, fun j x hj => cellB (heap_alloc_eq w4 _) (by
    rcases j with _ | _ | j <;> simp at hj <;> simp [hj])⟩
  have hI1 := I4.out.calm (w' := w4.alloc (.cells #[.int .i64 0, .int .i64 1] 3 (0, 0))) ((Chg.refl _ _).alloc _)
  have hs := lsamec a4 (some ⟨w4.heap.size, 0, none⟩) cap4 2 [0, 1] [0, 1] _ hI1 hI2 (by decide)
  refine hs.mono ?_
  rintro e w4 ⟨rfl, hC⟩
  have hk := H4.out.calm (((Chg.refl _ _).alloc _).trans hC)
  clear H4
  have H4 := Lib.hid hk
  clear hs hI1 hI2 hC hk
  rw [show decide (([0, 1] : List Int) = [0, 1]) = true from by simp]
  go_wp2_with fail
  refine (pduec b bs _ q4 1 30 w4 H4.out.at_ H4.out.inv H4.out.cnt).mono ?_
  rintro e w5 hN
  obtain ⟨a5, cap5, vs5, rfl, hI, hk⟩ := H4.out.due (H4.out.inv.dueS 1 30) (cc2 (of_decide_eq_true (by kernel_rfl)) (of_decide_eq_true (by kernel_rfl))) hN
  have H5 := Lib.hid (show KT w b bs vs5 q5 w5 from hk)
  rw [show TS.dueL q4 1 30 = [] from by kernel_rfl] at hI
  have I5 := Lib.hid hI
  clear hN hk hI
  rw [show TS.dueL q4 1 30 = [] from by kernel_rfl]
  go_wp2_with fail
  refine (patc b bs _ q5 0 w5 H5.out.at_).mono ?_
  rintro e w5 ⟨rfl, hC⟩
  have hk := H5.out.calm (w2 := w5.alloc (.cells #[.bool true, .int .i64 1, .int .i64 34, .int .i64 4, .bool true, .int .i64 5, .int .i64 0] 32 (0, 0))) (hC.alloc _)
  clear H5
  have H5 := Lib.hid hk
  clear hC hk
  rw [show TS.atV q5 0 = .tuple #[(⟨true, 1, 34, 4, true, 5, 0⟩ : TE).val, .bool true] from by kernel_rfl]
  unfold TE.val TE.cells
  go_wp2_with fail
  refine (ptakenc b bs _ q5 0 _ H5.out.at_).mono ?_
  rintro e w6 ⟨rfl, hN⟩
  obtain ⟨vs6, hk⟩ := H5.out.next (H5.out.inv.takenS 0) (cc2 (of_decide_eq_true (by kernel_rfl)) (of_decide_eq_true (by kernel_rfl))) hN
  have H6 := Lib.hid (show KT w b bs vs6 q6 w6 from hk)
  clear hN hk
  rw [show TS.takenV q5 0 = (5, 0) from by kernel_rfl]
  go_wp2_with fail
  refine (ptakenc b bs _ q6 0 _ H6.out.at_).mono ?_
  rintro e w7 ⟨rfl, hN⟩
  obtain ⟨vs7, hk⟩ := H6.out.next (H6.out.inv.takenS 0) (cc2 (of_decide_eq_true (by kernel_rfl)) (of_decide_eq_true (by kernel_rfl))) hN
  have H7 := Lib.hid (show KT w b bs vs7 q7 w7 from hk)
  clear hN hk
  rw [show TS.takenV q6 0 = (5, 0) from by kernel_rfl]
  go_wp2_with fail
  refine (pduec b bs _ q7 1 34 w7 H7.out.at_ H7.out.inv H7.out.cnt).mono ?_
  rintro e w8 hN
  obtain ⟨a8, cap8, vs8, rfl, hI, hk⟩ := H7.out.due (H7.out.inv.dueS 1 34) (cc2 (of_decide_eq_true (by kernel_rfl)) (of_decide_eq_true (by kernel_rfl))) hN
  have H8 := Lib.hid (show KT w b bs vs8 q8 w8 from hk)
  rw [show TS.dueL q7 1 34 = [0] from by kernel_rfl] at hI
  have I8 := Lib.hid hI
  clear hN hk hI
  rw [show TS.dueL q7 1 34 = [0] from by kernel_rfl]
  go_wp2_with fail
  have hI2 : IntsAt (w8.alloc (.cells #[.int .i64 0] 3 (0, 0))) (some ⟨w8.heap.size, 0, none⟩) [0] := .inr ⟨_, rfl, fun j x hj => cellB (heap_alloc_eq w8 _) (by
    rcases j with _ | _ | j <;> simp at hj <;> simp [hj])⟩
  have hI1 := I8.out.calm (w' := w8.alloc (.cells #[.int .i64 0] 3 (0, 0))) ((Chg.refl _ _).alloc _)
  have hs := lsamec a8 (some ⟨w8.heap.size, 0, none⟩) cap8 1 [0] [0] _ hI1 hI2 (by decide)
  refine hs.mono ?_
  rintro e w8 ⟨rfl, hC⟩
  have hk := H8.out.calm (((Chg.refl _ _).alloc _).trans hC)
  clear H8
  have H8 := Lib.hid hk
  clear hs hI1 hI2 hC hk
  rw [show decide (([0] : List Int) = [0]) = true from by simp]
  go_wp2_with fail
  refine (parmc b bs _ q8 2 0 1 0 w8 H8.out.at_ (fun i e he ha => (H8.out.inv.on i e he ha).2.1) (cc3 H8.out.cnt)).mono ?_
  rintro e w9 ⟨rfl, hN⟩
  obtain ⟨vs9, hk⟩ := H8.out.next (H8.out.inv.armS 2 0 1 0) (cc2 (of_decide_eq_true (by kernel_rfl)) (of_decide_eq_true (by kernel_rfl))) hN
  have H9 := Lib.hid (show KT w b bs vs9 q9 w9 from hk)
  clear hN hk
  rw [show TS.armE q8 2 0 1 0 = 2 from by kernel_rfl]
  go_wp2_with fail
  refine (parmc b bs _ q9 0 2 1 0 w9 H9.out.at_ (fun i e he ha => (H9.out.inv.on i e he ha).2.1) (cc3 H9.out.cnt)).mono ?_
  rintro e w10 ⟨rfl, hN⟩
  obtain ⟨vs10, hk⟩ := H9.out.next (H9.out.inv.armS 0 2 1 0) (cc2 (of_decide_eq_true (by kernel_rfl)) (of_decide_eq_true (by kernel_rfl))) hN
  have H10 := Lib.hid (show KT w b bs vs10 q10 w10 from hk)
  clear hN hk
  rw [show TS.armE q9 0 2 1 0 = 2 from by kernel_rfl]
  go_wp2
  go_ret
  exact ⟨rfl, H10.out.chg⟩

end Go.Proofs.Ytonahpilmchnkaa
