
/- metronomelaw14.known: the chapter's rows (written by wip/known14.py). -/
import Derived.Test.YtknngbnkcbcanaaGreatBDo
namespace Go.Proofs.YtknngbnkcbcanaaGreat
open Go.RowKit

theorem eql_pSem_nil (w : World) (a : Addr) : (binOp .eql 24 (.pointer (some a)) (.pointer none)).run Tryz.prog w = .ok (.bool false) w := by
  simp [go_sem]

set_option maxRecDepth 100000 in
set_option maxHeartbeats 8000000 in
theorem known14 (w : World) : Calls Tryz.prog 14 #[] w fun e w' => e = .returned (.bool true) ∧ Chg [] w w' := by
  go_enter Tryz.func14, Tryz.ntmps14
  go_wp2_with fail
  refine (snewc 1 w (by omega) (by omega)).mono ?_
  rintro e w0 ⟨cb, ab, mb, rfl, hcb, hab, hmb, hW, hC⟩
  have H0 := Lib.hid (And.intro hW (And.intro hC (And.intro hcb (And.intro hab (And.intro hmb (And.intro hW.lt hC.size))))))
  clear hW hC hcb hab hmb
  go_wp2_with fail
  refine (bnewc 3 w0 (by omega) (by omega)).mono ?_
  rintro e w1 ⟨c2, a2, m2, rfl, hcb, hab, hmb, hW, hC⟩
  have H1 := Lib.hid (And.intro (H0.out.1.calm hC) (And.intro hW (And.intro (H0.out.2.1.trans hC) (show (∀ x ∈ [cb, ab, mb], ∀ y ∈ [c2, a2, m2], x ≠ y) ∧ (∀ x ∈ [cb, ab, mb], w.heap.size ≤ x) ∧ (∀ x ∈ [c2, a2, m2], w.heap.size ≤ x) from ⟨fun x hx y hy => by have := H0.out.2.2; simp at hx hy; omega, fun x hx => by have := H0.out.2.2; simp at hx; omega, fun x hx => by have := H0.out.2.2; simp at hx; omega⟩))))
  clear hW hC hcb hab hmb H0
  go_wp2_with fail
  refine (swaitc cb ab mb 0 [] 1 1 5 w1 H1.out.1 (by omega) (by omega) (by omega)).mono ?_
  rintro e w2 ⟨rfl, hW, hC⟩
  rw [show swB [] 1 1 5 = true from by decide, show askR [] 1 5 false = 0 from by decide]
  rw [show swL [] 1 1 5 = [] from by decide, show swV [] 1 1 5 = 0 from by decide] at hW
  have H2 := Lib.hid (And.intro hW (And.intro (H1.out.2.1.kept hC (fun h => H1.out.2.2.2.1 _ (by simp at h ⊢; omega) c2 (by simp) rfl) (fun h => H1.out.2.2.2.1 _ (by simp at h ⊢; omega) a2 (by simp) rfl) (fun h => H1.out.2.2.2.1 _ (by simp at h ⊢; omega) m2 (by simp) rfl)) (And.intro (H1.out.2.2.1.trans' hC (fun k hk => .inr (H1.out.2.2.2.2.1 k (by simp at hk ⊢; omega)))) H1.out.2.2.2)))
  clear hW hC
  go_wp2_with (first | fail | (go_at_call 18; go_in))
  refine (swaitc cb ab mb 2 [] 0 2 5 w2 H2.out.1 (by omega) (by omega) (by omega)).mono ?_
  rintro e w3 ⟨rfl, hW, hC⟩
  rw [show swB [] 0 2 5 = false from by decide, show askR [] 2 5 false = 0 from by decide]
  rw [show swL [] 0 2 5 = [(2, 5)] from by decide, show swV [] 0 2 5 = 0 from by decide] at hW
  have H3 := Lib.hid (And.intro hW (And.intro (H2.out.2.1.kept hC (fun h => H2.out.2.2.2.1 _ (by simp at h ⊢; omega) c2 (by simp) rfl) (fun h => H2.out.2.2.2.1 _ (by simp at h ⊢; omega) a2 (by simp) rfl) (fun h => H2.out.2.2.2.1 _ (by simp at h ⊢; omega) m2 (by simp) rfl)) (And.intro (H2.out.2.2.1.trans' hC (fun k hk => .inr (H2.out.2.2.2.2.1 k (by simp at hk ⊢; omega)))) H2.out.2.2.2)))
  clear hW hC
  go_wp2_with (first | fail | (go_at_call 18; go_in))
  refine (swaitc cb ab mb 4 [(2, 5)] 0 3 9 w3 H3.out.1 (by omega) (by omega) (by omega)).mono ?_
  rintro e w4 ⟨rfl, hW, hC⟩
  rw [show swB [(2, 5)] 0 3 9 = false from by decide, show askR [(2, 5)] 3 9 false = 0 from by decide]
  rw [show swL [(2, 5)] 0 3 9 = [(2, 5), (3, 9)] from by decide, show swV [(2, 5)] 0 3 9 = 0 from by decide] at hW
  have H4 := Lib.hid (And.intro hW (And.intro (H3.out.2.1.kept hC (fun h => H3.out.2.2.2.1 _ (by simp at h ⊢; omega) c2 (by simp) rfl) (fun h => H3.out.2.2.2.1 _ (by simp at h ⊢; omega) a2 (by simp) rfl) (fun h => H3.out.2.2.2.1 _ (by simp at h ⊢; omega) m2 (by simp) rfl)) (And.intro (H3.out.2.2.1.trans' hC (fun k hk => .inr (H3.out.2.2.2.2.1 k (by simp at hk ⊢; omega)))) H3.out.2.2.2)))
  clear hW hC
  go_wp2_with (first | fail | (go_at_call 18; go_in))
  refine (swaitc cb ab mb 6 [(2, 5), (3, 9)] 0 2 5 w4 H4.out.1 (by omega) (by omega) (by omega)).mono ?_
  rintro e w5 ⟨rfl, hW, hC⟩
  rw [show swB [(2, 5), (3, 9)] 0 2 5 = false from by decide, show askR [(2, 5), (3, 9)] 2 5 false = 7 from by decide]
  rw [show swL [(2, 5), (3, 9)] 0 2 5 = [(2, 5), (3, 9)] from by decide, show swV [(2, 5), (3, 9)] 0 2 5 = 0 from by decide] at hW
  have H5 := Lib.hid (And.intro hW (And.intro (H4.out.2.1.kept hC (fun h => H4.out.2.2.2.1 _ (by simp at h ⊢; omega) c2 (by simp) rfl) (fun h => H4.out.2.2.2.1 _ (by simp at h ⊢; omega) a2 (by simp) rfl) (fun h => H4.out.2.2.2.1 _ (by simp at h ⊢; omega) m2 (by simp) rfl)) (And.intro (H4.out.2.2.1.trans' hC (fun k hk => .inr (H4.out.2.2.2.2.1 k (by simp at hk ⊢; omega)))) H4.out.2.2.2)))
  clear hW hC
  go_wp2_with (first | fail | (go_at_call 18; go_in))
  refine (slistc cb ab mb 8 [(2, 5), (3, 9)] 0 w5 H5.out.1).mono ?_
  rintro e w6 ⟨vl, rfl, ho, hC⟩
  rw [show ordT [(2, 5), (3, 9)] = [3, 2] from by decide] at ho
  have OLvl := And.intro H5.out.1.lt H5.out.2.1.lt
  have H6 := Lib.hid (And.intro (H5.out.1.calm hC) (And.intro (H5.out.2.1.calm hC) (And.intro (H5.out.2.2.1.trans hC) H5.out.2.2.2)))
  have Ovl := Lib.hid (And.intro ho (show ∀ x ∈ [cb, ab, mb, c2, a2, m2], x < w5.heap.size from fun x hx => by have h1 := OLvl.1; have h2 := OLvl.2; simp at hx; omega))
  clear ho hC OLvl
  go_wp2_with (first | fail | (go_at_call 18; go_in))
  refine (spostc cb ab mb 8 [(2, 5), (3, 9)] 0 w6 H6.out.1 (by omega) (by omega)).mono ?_
  rintro e w7 ⟨rfl, hW, hC⟩
  rw [show spT [(2, 5), (3, 9)] = 3 from by decide, show spE [(2, 5), (3, 9)] 0 = 0 from by decide]
  rw [show takeL [(2, 5), (3, 9)] = [(2, 5)] from by decide, show spV [(2, 5), (3, 9)] 0 = 0 from by decide] at hW
  have H7 := Lib.hid (And.intro hW (And.intro (H6.out.2.1.kept hC (fun h => H6.out.2.2.2.1 _ (by simp at h ⊢; omega) c2 (by simp) rfl) (fun h => H6.out.2.2.2.1 _ (by simp at h ⊢; omega) a2 (by simp) rfl) (fun h => H6.out.2.2.2.1 _ (by simp at h ⊢; omega) m2 (by simp) rfl)) (And.intro (H6.out.2.2.1.trans' hC (fun k hk => .inr (H6.out.2.2.2.2.1 k (by simp at hk ⊢; omega)))) H6.out.2.2.2)))
  have Ovl := Lib.hid (And.intro (own_kept Ovl.out.1 hC (fun k hk => own_notin Ovl.out.1 (Ovl.out.2 k (by simp at hk ⊢; omega)))) Ovl.out.2)
  clear hW hC
  go_wp2_with (first | fail | (go_at_call 18; go_in))
  refine (schangec cb ab mb 8 [(2, 5)] 0 2 1 w7 H7.out.1).mono ?_
  rintro e w8 ⟨rfl, hW, hC⟩
  rw [show askR [(2, 5)] 2 1 true = 0 from by decide]
  rw [show chgL [(2, 5)] 2 1 = [(2, 1)] from by decide] at hW
  have H8 := Lib.hid (And.intro hW (And.intro (H7.out.2.1.kept hC (fun h => H7.out.2.2.2.1 _ (by simp at h ⊢; omega) c2 (by simp) rfl) (fun h => H7.out.2.2.2.1 _ (by simp at h ⊢; omega) a2 (by simp) rfl) (fun h => H7.out.2.2.2.1 _ (by simp at h ⊢; omega) m2 (by simp) rfl)) (And.intro (H7.out.2.2.1.trans' hC (fun k hk => .inr (H7.out.2.2.2.2.1 k (by simp at hk ⊢; omega)))) H7.out.2.2.2)))
  have Ovl := Lib.hid (And.intro (own_kept Ovl.out.1 hC (fun k hk => own_notin Ovl.out.1 (Ovl.out.2 k (by simp at hk ⊢; omega)))) Ovl.out.2)
  clear hW hC
  go_wp2_with (first | fail | (go_at_call 18; go_in))
  refine (spostc cb ab mb 8 [(2, 1)] 0 w8 H8.out.1 (by omega) (by omega)).mono ?_
  rintro e w9 ⟨rfl, hW, hC⟩
  rw [show spT [(2, 1)] = 2 from by decide, show spE [(2, 1)] 0 = 0 from by decide]
  rw [show takeL [(2, 1)] = [] from by decide, show spV [(2, 1)] 0 = 0 from by decide] at hW
  have H9 := Lib.hid (And.intro hW (And.intro (H8.out.2.1.kept hC (fun h => H8.out.2.2.2.1 _ (by simp at h ⊢; omega) c2 (by simp) rfl) (fun h => H8.out.2.2.2.1 _ (by simp at h ⊢; omega) a2 (by simp) rfl) (fun h => H8.out.2.2.2.1 _ (by simp at h ⊢; omega) m2 (by simp) rfl)) (And.intro (H8.out.2.2.1.trans' hC (fun k hk => .inr (H8.out.2.2.2.2.1 k (by simp at hk ⊢; omega)))) H8.out.2.2.2)))
  have Ovl := Lib.hid (And.intro (own_kept Ovl.out.1 hC (fun k hk => own_notin Ovl.out.1 (Ovl.out.2 k (by simp at hk ⊢; omega)))) Ovl.out.2)
  clear hW hC
  go_wp2_with (first | fail | (go_at_call 18; go_in))
  refine (spostc cb ab mb 8 [] 0 w9 H9.out.1 (by omega) (by omega)).mono ?_
  rintro e w10 ⟨rfl, hW, hC⟩
  rw [show spT [] = -1 from by decide, show spE [] 0 = 0 from by decide]
  rw [show takeL [] = [] from by decide, show spV [] 0 = 1 from by decide] at hW
  have H10 := Lib.hid (And.intro hW (And.intro (H9.out.2.1.kept hC (fun h => H9.out.2.2.2.1 _ (by simp at h ⊢; omega) c2 (by simp) rfl) (fun h => H9.out.2.2.2.1 _ (by simp at h ⊢; omega) a2 (by simp) rfl) (fun h => H9.out.2.2.2.1 _ (by simp at h ⊢; omega) m2 (by simp) rfl)) (And.intro (H9.out.2.2.1.trans' hC (fun k hk => .inr (H9.out.2.2.2.2.1 k (by simp at hk ⊢; omega)))) H9.out.2.2.2)))
  have Ovl := Lib.hid (And.intro (own_kept Ovl.out.1 hC (fun k hk => own_notin Ovl.out.1 (Ovl.out.2 k (by simp at hk ⊢; omega)))) Ovl.out.2)
  clear hW hC
  go_wp2_with (first | fail | (go_at_call 18; go_in))
  refine (snew_no 32768 w10 (by omega)).mono ?_
  rintro e wn ⟨rfl, rfl⟩
  go_wp2_with (first | fail | (go_at_call 18; go_in))
  refine (bnew_no 0 w10 (by omega)).mono ?_
  rintro e wn ⟨rfl, rfl⟩
  go_wp2_with (first | fail | (go_at_call 18; go_in))
  refine (bnew_no 17 w10 (by omega)).mono ?_
  rintro e wn ⟨rfl, rfl⟩
  go_wp2_with (first | fail | (go_at_call 18; go_in))
  refine (bwaitc c2 a2 m2 0 [] 3 1 5 w10 H10.out.2.1 (by omega) (by omega) (by omega)).mono ?_
  rintro e w11 ⟨vu, rfl, ho, hW, hC⟩
  rw [show askR [] 1 5 false = 0 from by decide]
  rw [show bwO [] 3 1 5 = [] from by decide] at ho
  rw [show bwL [] 3 1 5 = [(1, 5)] from by decide] at hW
  have OLvu := And.intro H10.out.1.lt H10.out.2.1.lt
  have H11 := Lib.hid (And.intro (H10.out.1.kept hC (fun h => H10.out.2.2.2.1 cb (by simp) _ (by simp at h ⊢; omega) rfl) (fun h => H10.out.2.2.2.1 ab (by simp) _ (by simp at h ⊢; omega) rfl) (fun h => H10.out.2.2.2.1 mb (by simp) _ (by simp at h ⊢; omega) rfl)) (And.intro hW (And.intro (H10.out.2.2.1.trans' hC (fun k hk => .inr (H10.out.2.2.2.2.2 k (by simp at hk ⊢; omega)))) H10.out.2.2.2)))
  have Ovl := Lib.hid (And.intro (own_kept Ovl.out.1 hC (fun k hk => own_notin Ovl.out.1 (Ovl.out.2 k (by simp at hk ⊢; omega)))) Ovl.out.2)
  obtain ⟨vua, vuc, rfl⟩ := own_slice ho
  rw [List.length_nil]
  clear ho hW hC OLvu
  go_wp2_with (first | fail | (go_at_call 18; go_in))
  refine (bwaitc c2 a2 m2 2 [(1, 5)] 3 2 9 w11 H11.out.2.1 (by omega) (by omega) (by omega)).mono ?_
  rintro e w12 ⟨vv, rfl, ho, hW, hC⟩
  rw [show askR [(1, 5)] 2 9 false = 0 from by decide]
  rw [show bwO [(1, 5)] 3 2 9 = [] from by decide] at ho
  rw [show bwL [(1, 5)] 3 2 9 = [(1, 5), (2, 9)] from by decide] at hW
  have OLvv := And.intro H11.out.1.lt H11.out.2.1.lt
  have H12 := Lib.hid (And.intro (H11.out.1.kept hC (fun h => H11.out.2.2.2.1 cb (by simp) _ (by simp at h ⊢; omega) rfl) (fun h => H11.out.2.2.2.1 ab (by simp) _ (by simp at h ⊢; omega) rfl) (fun h => H11.out.2.2.2.1 mb (by simp) _ (by simp at h ⊢; omega) rfl)) (And.intro hW (And.intro (H11.out.2.2.1.trans' hC (fun k hk => .inr (H11.out.2.2.2.2.2 k (by simp at hk ⊢; omega)))) H11.out.2.2.2)))
  have Ovl := Lib.hid (And.intro (own_kept Ovl.out.1 hC (fun k hk => own_notin Ovl.out.1 (Ovl.out.2 k (by simp at hk ⊢; omega)))) Ovl.out.2)
  obtain ⟨vva, vvc, rfl⟩ := own_slice ho
  rw [List.length_nil]
  clear ho hW hC OLvv
  go_wp2_with (first | fail | (go_at_call 18; go_in))
  refine (bwaitc c2 a2 m2 4 [(1, 5), (2, 9)] 3 3 1 w12 H12.out.2.1 (by omega) (by omega) (by omega)).mono ?_
  rintro e w13 ⟨vw, rfl, ho, hW, hC⟩
  rw [show askR [(1, 5), (2, 9)] 3 1 false = 0 from by decide]
  rw [show bwO [(1, 5), (2, 9)] 3 3 1 = [2, 1, 3] from by decide] at ho
  rw [show bwL [(1, 5), (2, 9)] 3 3 1 = [] from by decide] at hW
  have OLvw := And.intro H12.out.1.lt H12.out.2.1.lt
  have H13 := Lib.hid (And.intro (H12.out.1.kept hC (fun h => H12.out.2.2.2.1 cb (by simp) _ (by simp at h ⊢; omega) rfl) (fun h => H12.out.2.2.2.1 ab (by simp) _ (by simp at h ⊢; omega) rfl) (fun h => H12.out.2.2.2.1 mb (by simp) _ (by simp at h ⊢; omega) rfl)) (And.intro hW (And.intro (H12.out.2.2.1.trans' hC (fun k hk => .inr (H12.out.2.2.2.2.2 k (by simp at hk ⊢; omega)))) H12.out.2.2.2)))
  have Ovl := Lib.hid (And.intro (own_kept Ovl.out.1 hC (fun k hk => own_notin Ovl.out.1 (Ovl.out.2 k (by simp at hk ⊢; omega)))) Ovl.out.2)
  have Ovw := Lib.hid (And.intro ho (show ∀ x ∈ [cb, ab, mb, c2, a2, m2], x < w12.heap.size from fun x hx => by have h1 := OLvw.1; have h2 := OLvw.2; simp at hx; omega))
  clear ho hW hC OLvw
  go_wp2_with (first | fail | (go_at_call 18; go_in))
  refine (sameInts_any vl _ [3, 2] [3, 2] _ (IsInts.of_own (own_kept Ovl.out.1 ((Chg.refl [] w13).alloc _) (by simp))) (IsInts.of_blk (ts := [3, 2]) (heap_alloc_eq w13 (.cells #[.int .i64 3, .int .i64 2] 3))) (by simp) (by simp)).mono ?_
  rintro e w14 ⟨rfl, hC⟩
  rw [show decide (([3, 2] : List Int) = [3, 2]) = true from by decide]
  have hC := ((Chg.refl [] w13).alloc (.cells #[.int .i64 3, .int .i64 2] 3)).trans hC
  have H14 := Lib.hid (And.intro (H13.out.1.calm hC) (And.intro (H13.out.2.1.calm hC) (And.intro (H13.out.2.2.1.trans hC) H13.out.2.2.2)))
  have Ovl := Lib.hid (And.intro (own_kept Ovl.out.1 hC (by simp)) Ovl.out.2)
  have Ovw := Lib.hid (And.intro (own_kept Ovw.out.1 hC (by simp)) Ovw.out.2)
  clear hC
  go_wp2_with (first | fail | (go_at_call 18; go_in))
  refine (svaluec cb ab mb 8 [] 1 w14 H14.out.1).mono ?_
  rintro e w15 ⟨rfl, hC⟩
  have H15 := Lib.hid (And.intro (H14.out.1.calm hC) (And.intro (H14.out.2.1.calm hC) (And.intro (H14.out.2.2.1.trans hC) H14.out.2.2.2)))
  have Ovl := Lib.hid (And.intro (own_kept Ovl.out.1 hC (by simp)) Ovl.out.2)
  have Ovw := Lib.hid (And.intro (own_kept Ovw.out.1 hC (by simp)) Ovw.out.2)
  clear hC
  go_wp2_with (first | fail | (go_at_call 18; go_in))
  refine (sameInts_any vw _ [2, 1, 3] [2, 1, 3] _ (IsInts.of_own (own_kept Ovw.out.1 ((Chg.refl [] w15).alloc _) (by simp))) (IsInts.of_blk (ts := [2, 1, 3]) (heap_alloc_eq w15 (.cells #[.int .i64 2, .int .i64 1, .int .i64 3] 3))) (by simp) (by simp)).mono ?_
  rintro e w16 ⟨rfl, hC⟩
  rw [show decide (([2, 1, 3] : List Int) = [2, 1, 3]) = true from by decide]
  have hC := ((Chg.refl [] w15).alloc (.cells #[.int .i64 2, .int .i64 1, .int .i64 3] 3)).trans hC
  have H16 := Lib.hid (And.intro (H15.out.1.calm hC) (And.intro (H15.out.2.1.calm hC) (And.intro (H15.out.2.2.1.trans hC) H15.out.2.2.2)))
  have Ovl := Lib.hid (And.intro (own_kept Ovl.out.1 hC (by simp)) Ovl.out.2)
  have Ovw := Lib.hid (And.intro (own_kept Ovw.out.1 hC (by simp)) Ovw.out.2)
  clear hC
  go_wp2_with (first | fail | (go_at_call 18; go_in))
  refine (blenc c2 a2 m2 6 [] 3 w16 H16.out.2.1).mono ?_
  rintro e w17 ⟨rfl, hC⟩
  rw [show (([] : WL).length : Int) = 0 from rfl]
  have H17 := Lib.hid (And.intro (H16.out.1.calm hC) (And.intro (H16.out.2.1.calm hC) (And.intro (H16.out.2.2.1.trans hC) H16.out.2.2.2)))
  have Ovl := Lib.hid (And.intro (own_kept Ovl.out.1 hC (by simp)) Ovl.out.2)
  have Ovw := Lib.hid (And.intro (own_kept Ovw.out.1 hC (by simp)) Ovw.out.2)
  clear hC
  go_wp2_with (first | fail | (go_at_call 18; go_in))
  go_ret
  exact ⟨rfl, H17.out.2.2.1⟩

end Go.Proofs.YtknngbnkcbcanaaGreat
