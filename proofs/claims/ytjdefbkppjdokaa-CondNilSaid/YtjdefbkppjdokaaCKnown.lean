/- metronomelaw16.known: the chapter's rows (written by wip/known16.py). -/
import Derived.Test.YtjdefbkppjdokaaCDp
namespace Go.Proofs.Ytjdefbkppjdokaa
open Go.RowKit

theorem eql_pCond_nil (w : World) (a : Addr) : (binOp .eql 24 (.pointer (some a)) (.pointer none)).run Try.prog w = .ok (.bool false) w := by
  simp [go_sem]

set_option maxRecDepth 100000 in
set_option maxHeartbeats 4000000 in
theorem known16 (w : World) : Calls Try.prog 7 #[] w fun e w' => e = .returned (.bool true) ∧ Chg [] w w' := by
  go_enter Try.func7, Try.ntmps7
  go_wp2_with fail
  refine (cnewc w).mono ?_
  rintro e w0 ⟨cb, ab, mb, rfl, hcb, hab, hmb, hW, hC0⟩
  have H0 := Lib.hid (And.intro hW (And.intro hC0 (And.intro hcb (And.intro hab hmb))))
  clear hW hC0 hcb hab hmb
  go_wp2_with fail
  refine (cwaitc cb ab mb 0 [] 0 1 5 3 w0 H0.out.1 (by omega)).mono ?_
  rintro e w1 ⟨rfl, hW, hC⟩
  rw [show cwR [] 0 1 5 3 = 0 from by decide]
  rw [show cwL [] 0 1 5 3 = [(1, 5)] from by decide, show cwM [] 0 1 5 3 = 3 from by decide] at hW
  have H1 := Lib.hid (And.intro hW (And.intro (H0.out.2.1.trans' hC (by have := H0.out.2.2; simp; omega)) H0.out.2.2))
  clear hW hC
  go_wp2_with (first | fail | (go_at_call 12; go_in))
  refine (cwaitc cb ab mb 1 [(1, 5)] 3 2 9 3 w1 H1.out.1 (by omega)).mono ?_
  rintro e w2 ⟨rfl, hW, hC⟩
  rw [show cwR [(1, 5)] 3 2 9 3 = 0 from by decide]
  rw [show cwL [(1, 5)] 3 2 9 3 = [(1, 5), (2, 9)] from by decide, show cwM [(1, 5)] 3 2 9 3 = 3 from by decide] at hW
  have H2 := Lib.hid (And.intro hW (And.intro (H1.out.2.1.trans' hC (by have := H1.out.2.2; simp; omega)) H1.out.2.2))
  clear hW hC
  go_wp2_with (first | fail | (go_at_call 12; go_in))
  refine (cwaitc cb ab mb 2 [(1, 5), (2, 9)] 3 3 1 4 w2 H2.out.1 (by omega)).mono ?_
  rintro e w3 ⟨rfl, hW, hC⟩
  rw [show cwR [(1, 5), (2, 9)] 3 3 1 4 = 7 from by decide]
  rw [show cwL [(1, 5), (2, 9)] 3 3 1 4 = [(1, 5), (2, 9)] from by decide, show cwM [(1, 5), (2, 9)] 3 3 1 4 = 3 from by decide] at hW
  have H3 := Lib.hid (And.intro hW (And.intro (H2.out.2.1.trans' hC (by have := H2.out.2.2; simp; omega)) H2.out.2.2))
  clear hW hC
  go_wp2_with (first | fail | (go_at_call 12; go_in))
  refine (cwaitc cb ab mb 3 [(1, 5), (2, 9)] 3 1 5 3 w3 H3.out.1 (by omega)).mono ?_
  rintro e w4 ⟨rfl, hW, hC⟩
  rw [show cwR [(1, 5), (2, 9)] 3 1 5 3 = 7 from by decide]
  rw [show cwL [(1, 5), (2, 9)] 3 1 5 3 = [(1, 5), (2, 9)] from by decide, show cwM [(1, 5), (2, 9)] 3 1 5 3 = 3 from by decide] at hW
  have H4 := Lib.hid (And.intro hW (And.intro (H3.out.2.1.trans' hC (by have := H3.out.2.2; simp; omega)) H3.out.2.2))
  clear hW hC
  go_wp2_with (first | fail | (go_at_call 12; go_in))
  refine (cwaitc cb ab mb 4 [(1, 5), (2, 9)] 3 4 1 (-1) w4 H4.out.1 (by omega)).mono ?_
  rintro e w5 ⟨rfl, hW, hC⟩
  rw [show cwR [(1, 5), (2, 9)] 3 4 1 (-1) = 2 from by decide]
  rw [show cwL [(1, 5), (2, 9)] 3 4 1 (-1) = [(1, 5), (2, 9)] from by decide, show cwM [(1, 5), (2, 9)] 3 4 1 (-1) = 3 from by decide] at hW
  have H5 := Lib.hid (And.intro hW (And.intro (H4.out.2.1.trans' hC (by have := H4.out.2.2; simp; omega)) H4.out.2.2))
  clear hW hC
  go_wp2_with (first | fail | (go_at_call 12; go_in))
  refine (cmutexc cb ab mb 5 [(1, 5), (2, 9)] 3 w5 H5.out.1).mono ?_
  rintro e w6 ⟨rfl, hC⟩
  rw [show muM [(1, 5), (2, 9)] 3 = 3 from by decide, show muB [(1, 5), (2, 9)] = true from by decide]
  have H6 := Lib.hid (And.intro (H5.out.1.calm hC) (And.intro (H5.out.2.1.trans hC) H5.out.2.2))
  clear hC
  go_wp2_with (first | fail | (go_at_call 12; go_in))
  refine (csignalc cb ab mb 5 [(1, 5), (2, 9)] 3 w6 H6.out.1).mono ?_
  rintro e w7 ⟨rfl, hW, hC⟩
  rw [show headT (ordL [(1, 5), (2, 9)]) = 2 from by decide, show headB (ordL [(1, 5), (2, 9)]) = true from by decide]
  rw [show takeL [(1, 5), (2, 9)] = [(1, 5)] from by decide] at hW
  have H7 := Lib.hid (And.intro hW (And.intro (H6.out.2.1.trans' hC (by have := H6.out.2.2; simp; omega)) H6.out.2.2))
  clear hW hC
  go_wp2_with (first | fail | (go_at_call 12; go_in))
  refine (cwaitc cb ab mb 5 [(1, 5)] 3 3 7 3 w7 H7.out.1 (by omega)).mono ?_
  rintro e w8 ⟨rfl, hW, hC⟩
  rw [show cwR [(1, 5)] 3 3 7 3 = 0 from by decide]
  rw [show cwL [(1, 5)] 3 3 7 3 = [(1, 5), (3, 7)] from by decide, show cwM [(1, 5)] 3 3 7 3 = 3 from by decide] at hW
  have H8 := Lib.hid (And.intro hW (And.intro (H7.out.2.1.trans' hC (by have := H7.out.2.2; simp; omega)) H7.out.2.2))
  clear hW hC
  go_wp2_with (first | fail | (go_at_call 12; go_in))
  refine (cbroadc cb ab mb 6 [(1, 5), (3, 7)] 3 w8 H8.out.1).mono ?_
  rintro e w9 ⟨vl, rfl, ho, hW, hC⟩
  rw [show ordT [(1, 5), (3, 7)] = [3, 1] from by decide] at ho
  have H9 := Lib.hid (And.intro hW (And.intro (H8.out.2.1.trans' hC (by have := H8.out.2.2; simp; omega)) H8.out.2.2))
  have Ovl := Lib.hid (And.intro ho (H8.out.1.lt))
  clear ho hW hC
  go_wp2_with (first | fail | (go_at_call 12; go_in))
  refine (cmutexc cb ab mb 6 [] 3 w9 H9.out.1).mono ?_
  rintro e w10 ⟨rfl, hC⟩
  rw [show muM [] 3 = 0 from by decide, show muB [] = false from by decide]
  have H10 := Lib.hid (And.intro (H9.out.1.calm hC) (And.intro (H9.out.2.1.trans hC) H9.out.2.2))
  have Ovl := Lib.hid (And.intro (own_kept Ovl.out.1 hC (fun k hk => by have h1 := Ovl.out.2; first | (simp at hk; done) | (simp at hk; rcases hk with rfl | rfl | rfl <;> exact own_notin Ovl.out.1 (by omega)) | (simp at hk; rcases hk with rfl | rfl <;> exact own_notin Ovl.out.1 (by omega)))) Ovl.out.2)
  clear hC
  go_wp2_with (first | fail | (go_at_call 12; go_in))
  refine (csignalc cb ab mb 6 [] 3 w10 H10.out.1).mono ?_
  rintro e w11 ⟨rfl, hW, hC⟩
  rw [show headT (ordL []) = 0 from by decide, show headB (ordL []) = false from by decide]
  rw [show takeL [] = [] from by decide] at hW
  have H11 := Lib.hid (And.intro hW (And.intro (H10.out.2.1.trans' hC (by have := H10.out.2.2; simp; omega)) H10.out.2.2))
  have Ovl := Lib.hid (And.intro (own_kept Ovl.out.1 hC (fun k hk => by have h1 := Ovl.out.2; first | (simp at hk; done) | (simp at hk; rcases hk with rfl | rfl | rfl <;> exact own_notin Ovl.out.1 (by omega)) | (simp at hk; rcases hk with rfl | rfl <;> exact own_notin Ovl.out.1 (by omega)))) Ovl.out.2)
  clear hW hC
  go_wp2_with (first | fail | (go_at_call 12; go_in))
  refine (sameInts_any vl _ [3, 1] [3, 1] _ (IsInts.of_own (own_kept Ovl.out.1 ((Chg.refl [] w11).alloc _) (by simp))) (IsInts.of_blk (ts := [3, 1]) (heap_alloc_eq w11 (.cells #[.int .i64 3, .int .i64 1] 3))) (by simp) (by simp)).mono ?_
  rintro e w12 ⟨rfl, hC⟩
  rw [show decide (([3, 1] : List Int) = [3, 1]) = true from by decide]
  have hC := ((Chg.refl [] w11).alloc (.cells #[.int .i64 3, .int .i64 1] 3)).trans hC
  have H12 := Lib.hid (And.intro (H11.out.1.calm hC) (And.intro (H11.out.2.1.trans hC) H11.out.2.2))
  have Ovl := Lib.hid (And.intro (own_kept Ovl.out.1 hC (fun k hk => by have h1 := Ovl.out.2; first | (simp at hk; done) | (simp at hk; rcases hk with rfl | rfl | rfl <;> exact own_notin Ovl.out.1 (by omega)) | (simp at hk; rcases hk with rfl | rfl <;> exact own_notin Ovl.out.1 (by omega)))) Ovl.out.2)
  clear hC
  go_wp2_with (first | fail | (go_at_call 12; go_in))
  go_ret
  exact ⟨rfl, H12.out.2.1⟩

end Go.Proofs.Ytjdefbkppjdokaa
