
/- metronomelaw09.known: the chapter's rows (written by wip/known09.py). -/
import Derived.Test.YtohkjiibjljmmaaIns
namespace Go.Proofs.Ytohkjiibjljmmaa
open Go.RowKit

theorem eql_ptr_nil (w : World) (a : Addr) : (binOp .eql 24 (.pointer (some a)) (.pointer none)).run Try.prog w = .ok (.bool false) w := by
  simp [go_sem]

set_option maxRecDepth 100000 in
set_option maxHeartbeats 4000000 in
theorem known09 (w : World) : Calls Try.prog 6 #[] w fun e w' => e = .returned (.bool true) ∧ Chg [] w w' := by
  go_enter Try.func6, Try.ntmps6
  go_wp2_with fail
  refine (newc w).mono ?_
  rintro e w0 ⟨ab, mb, rfl, hab, hmb, hW, hC0⟩
  have H0 := Lib.hid (And.intro hW (And.intro hC0 (And.intro hab hmb)))
  clear hW hC0 hab hmb
  go_wp2_with fail
  refine (putc ab mb 0 [] 1 5 w0 H0.out.1 (by omega)).mono ?_
  rintro e w1 ⟨rfl, hW, hC⟩
  rw [show askR [] 1 5 false = 0 from by decide]
  rw [show putL [] 1 5 = [(1, 5)] from by decide] at hW
  have H1 := Lib.hid (And.intro hW (And.intro (H0.out.2.1.trans' hC (by have := H0.out.2.2; simp; omega)) H0.out.2.2))
  clear hW hC
  go_wp2_with (first | fail | (go_at_call 8; go_in))
  refine (putc ab mb 1 [(1, 5)] 2 9 w1 H1.out.1 (by omega)).mono ?_
  rintro e w2 ⟨rfl, hW, hC⟩
  rw [show askR [(1, 5)] 2 9 false = 0 from by decide]
  rw [show putL [(1, 5)] 2 9 = [(1, 5), (2, 9)] from by decide] at hW
  have H2 := Lib.hid (And.intro hW (And.intro (H1.out.2.1.trans' hC (by have := H1.out.2.2; simp; omega)) H1.out.2.2))
  clear hW hC
  go_wp2_with (first | fail | (go_at_call 8; go_in))
  refine (putc ab mb 2 [(1, 5), (2, 9)] 3 5 w2 H2.out.1 (by omega)).mono ?_
  rintro e w3 ⟨rfl, hW, hC⟩
  rw [show askR [(1, 5), (2, 9)] 3 5 false = 0 from by decide]
  rw [show putL [(1, 5), (2, 9)] 3 5 = [(1, 5), (2, 9), (3, 5)] from by decide] at hW
  have H3 := Lib.hid (And.intro hW (And.intro (H2.out.2.1.trans' hC (by have := H2.out.2.2; simp; omega)) H2.out.2.2))
  clear hW hC
  go_wp2_with (first | fail | (go_at_call 8; go_in))
  refine (putc ab mb 3 [(1, 5), (2, 9), (3, 5)] 1 7 w3 H3.out.1 (by omega)).mono ?_
  rintro e w4 ⟨rfl, hW, hC⟩
  rw [show askR [(1, 5), (2, 9), (3, 5)] 1 7 false = 7 from by decide]
  rw [show putL [(1, 5), (2, 9), (3, 5)] 1 7 = [(1, 5), (2, 9), (3, 5)] from by decide] at hW
  have H4 := Lib.hid (And.intro hW (And.intro (H3.out.2.1.trans' hC (by have := H3.out.2.2; simp; omega)) H3.out.2.2))
  clear hW hC
  go_wp2_with (first | fail | (go_at_call 8; go_in))
  refine (putc ab mb 4 [(1, 5), (2, 9), (3, 5)] 16 1 w4 H4.out.1 (by omega)).mono ?_
  rintro e w5 ⟨rfl, hW, hC⟩
  rw [show askR [(1, 5), (2, 9), (3, 5)] 16 1 false = 2 from by decide]
  rw [show putL [(1, 5), (2, 9), (3, 5)] 16 1 = [(1, 5), (2, 9), (3, 5)] from by decide] at hW
  have H5 := Lib.hid (And.intro hW (And.intro (H4.out.2.1.trans' hC (by have := H4.out.2.2; simp; omega)) H4.out.2.2))
  clear hW hC
  go_wp2_with (first | fail | (go_at_call 8; go_in))
  refine (putc ab mb 5 [(1, 5), (2, 9), (3, 5)] 4 32 w5 H5.out.1 (by omega)).mono ?_
  rintro e w6 ⟨rfl, hW, hC⟩
  rw [show askR [(1, 5), (2, 9), (3, 5)] 4 32 false = 2 from by decide]
  rw [show putL [(1, 5), (2, 9), (3, 5)] 4 32 = [(1, 5), (2, 9), (3, 5)] from by decide] at hW
  have H6 := Lib.hid (And.intro hW (And.intro (H5.out.2.1.trans' hC (by have := H5.out.2.2; simp; omega)) H5.out.2.2))
  clear hW hC
  go_wp2_with (first | fail | (go_at_call 8; go_in))
  refine (listc ab mb 6 [(1, 5), (2, 9), (3, 5)] w6 H6.out.1).mono ?_
  rintro e w7 ⟨vl, rfl, ho, hC⟩
  rw [show ordT [(1, 5), (2, 9), (3, 5)] = [2, 1, 3] from by decide] at ho
  have H7 := Lib.hid (And.intro (H6.out.1.kept hC (by simp) (by simp)) (And.intro (H6.out.2.1.trans hC) H6.out.2.2))
  have Ovl := Lib.hid (And.intro ho (H6.out.1.lt))
  clear ho hC
  go_wp2_with (first | fail | (go_at_call 8; go_in))
  refine (changec ab mb 6 [(1, 5), (2, 9), (3, 5)] 3 9 w7 H7.out.1).mono ?_
  rintro e w8 ⟨rfl, hW, hC⟩
  rw [show askR [(1, 5), (2, 9), (3, 5)] 3 9 true = 0 from by decide]
  rw [show chgL [(1, 5), (2, 9), (3, 5)] 3 9 = [(1, 5), (2, 9), (3, 9)] from by decide] at hW
  have H8 := Lib.hid (And.intro hW (And.intro (H7.out.2.1.trans' hC (by have := H7.out.2.2; simp; omega)) H7.out.2.2))
  have Ovl := Lib.hid (And.intro (own_kept Ovl.out.1 hC (fun k hk => by have h1 := Ovl.out.2; first | (simp at hk; done) | (simp at hk; rcases hk with rfl | rfl <;> exact own_notin Ovl.out.1 (by omega)))) Ovl.out.2)
  clear hW hC
  go_wp2_with (first | fail | (go_at_call 8; go_in))
  refine (listc ab mb 6 [(1, 5), (2, 9), (3, 9)] w8 H8.out.1).mono ?_
  rintro e w9 ⟨vm, rfl, ho, hC⟩
  rw [show ordT [(1, 5), (2, 9), (3, 9)] = [2, 3, 1] from by decide] at ho
  have H9 := Lib.hid (And.intro (H8.out.1.kept hC (by simp) (by simp)) (And.intro (H8.out.2.1.trans hC) H8.out.2.2))
  have Ovl := Lib.hid (And.intro (own_kept Ovl.out.1 hC (fun k hk => by have h1 := Ovl.out.2; first | (simp at hk; done) | (simp at hk; rcases hk with rfl | rfl <;> exact own_notin Ovl.out.1 (by omega)))) Ovl.out.2)
  have Ovm := Lib.hid (And.intro ho (H8.out.1.lt))
  clear ho hC
  go_wp2_with (first | fail | (go_at_call 8; go_in))
  refine (changec ab mb 6 [(1, 5), (2, 9), (3, 9)] 1 9 w9 H9.out.1).mono ?_
  rintro e w10 ⟨rfl, hW, hC⟩
  rw [show askR [(1, 5), (2, 9), (3, 9)] 1 9 true = 0 from by decide]
  rw [show chgL [(1, 5), (2, 9), (3, 9)] 1 9 = [(1, 9), (2, 9), (3, 9)] from by decide] at hW
  have H10 := Lib.hid (And.intro hW (And.intro (H9.out.2.1.trans' hC (by have := H9.out.2.2; simp; omega)) H9.out.2.2))
  have Ovl := Lib.hid (And.intro (own_kept Ovl.out.1 hC (fun k hk => by have h1 := Ovl.out.2; first | (simp at hk; done) | (simp at hk; rcases hk with rfl | rfl <;> exact own_notin Ovl.out.1 (by omega)))) Ovl.out.2)
  have Ovm := Lib.hid (And.intro (own_kept Ovm.out.1 hC (fun k hk => by have h1 := Ovm.out.2; first | (simp at hk; done) | (simp at hk; rcases hk with rfl | rfl <;> exact own_notin Ovm.out.1 (by omega)))) Ovm.out.2)
  clear hW hC
  go_wp2_with (first | fail | (go_at_call 8; go_in))
  refine (listc ab mb 6 [(1, 9), (2, 9), (3, 9)] w10 H10.out.1).mono ?_
  rintro e w11 ⟨vn, rfl, ho, hC⟩
  rw [show ordT [(1, 9), (2, 9), (3, 9)] = [1, 2, 3] from by decide] at ho
  have H11 := Lib.hid (And.intro (H10.out.1.kept hC (by simp) (by simp)) (And.intro (H10.out.2.1.trans hC) H10.out.2.2))
  have Ovl := Lib.hid (And.intro (own_kept Ovl.out.1 hC (fun k hk => by have h1 := Ovl.out.2; first | (simp at hk; done) | (simp at hk; rcases hk with rfl | rfl <;> exact own_notin Ovl.out.1 (by omega)))) Ovl.out.2)
  have Ovm := Lib.hid (And.intro (own_kept Ovm.out.1 hC (fun k hk => by have h1 := Ovm.out.2; first | (simp at hk; done) | (simp at hk; rcases hk with rfl | rfl <;> exact own_notin Ovm.out.1 (by omega)))) Ovm.out.2)
  have Ovn := Lib.hid (And.intro ho (H10.out.1.lt))
  clear ho hC
  go_wp2_with (first | fail | (go_at_call 8; go_in))
  refine (changec ab mb 6 [(1, 9), (2, 9), (3, 9)] 0 1 w11 H11.out.1).mono ?_
  rintro e w12 ⟨rfl, hW, hC⟩
  rw [show askR [(1, 9), (2, 9), (3, 9)] 0 1 true = 6 from by decide]
  rw [show chgL [(1, 9), (2, 9), (3, 9)] 0 1 = [(1, 9), (2, 9), (3, 9)] from by decide] at hW
  have H12 := Lib.hid (And.intro hW (And.intro (H11.out.2.1.trans' hC (by have := H11.out.2.2; simp; omega)) H11.out.2.2))
  have Ovl := Lib.hid (And.intro (own_kept Ovl.out.1 hC (fun k hk => by have h1 := Ovl.out.2; first | (simp at hk; done) | (simp at hk; rcases hk with rfl | rfl <;> exact own_notin Ovl.out.1 (by omega)))) Ovl.out.2)
  have Ovm := Lib.hid (And.intro (own_kept Ovm.out.1 hC (fun k hk => by have h1 := Ovm.out.2; first | (simp at hk; done) | (simp at hk; rcases hk with rfl | rfl <;> exact own_notin Ovm.out.1 (by omega)))) Ovm.out.2)
  have Ovn := Lib.hid (And.intro (own_kept Ovn.out.1 hC (fun k hk => by have h1 := Ovn.out.2; first | (simp at hk; done) | (simp at hk; rcases hk with rfl | rfl <;> exact own_notin Ovn.out.1 (by omega)))) Ovn.out.2)
  clear hW hC
  go_wp2_with (first | fail | (go_at_call 8; go_in))
  refine (takec ab mb 6 [(1, 9), (2, 9), (3, 9)] w12 H12.out.1).mono ?_
  rintro e w13 ⟨rfl, hW, hC⟩
  rw [show headT (ordL [(1, 9), (2, 9), (3, 9)]) = 1 from by decide, show headB (ordL [(1, 9), (2, 9), (3, 9)]) = true from by decide]
  rw [show takeL [(1, 9), (2, 9), (3, 9)] = [(2, 9), (3, 9)] from by decide] at hW
  have H13 := Lib.hid (And.intro hW (And.intro (H12.out.2.1.trans' hC (by have := H12.out.2.2; simp; omega)) H12.out.2.2))
  have Ovl := Lib.hid (And.intro (own_kept Ovl.out.1 hC (fun k hk => by have h1 := Ovl.out.2; first | (simp at hk; done) | (simp at hk; rcases hk with rfl | rfl <;> exact own_notin Ovl.out.1 (by omega)))) Ovl.out.2)
  have Ovm := Lib.hid (And.intro (own_kept Ovm.out.1 hC (fun k hk => by have h1 := Ovm.out.2; first | (simp at hk; done) | (simp at hk; rcases hk with rfl | rfl <;> exact own_notin Ovm.out.1 (by omega)))) Ovm.out.2)
  have Ovn := Lib.hid (And.intro (own_kept Ovn.out.1 hC (fun k hk => by have h1 := Ovn.out.2; first | (simp at hk; done) | (simp at hk; rcases hk with rfl | rfl <;> exact own_notin Ovn.out.1 (by omega)))) Ovn.out.2)
  clear hW hC
  go_wp2_with (first | fail | (go_at_call 8; go_in))
  refine (leavec ab mb 6 [(2, 9), (3, 9)] 2 w13 H13.out.1).mono ?_
  rintro e w14 ⟨rfl, hW, hC⟩
  rw [show askR [(2, 9), (3, 9)] 2 1 true = 0 from by decide]
  rw [show lvL [(2, 9), (3, 9)] 2 = [(3, 9)] from by decide] at hW
  have H14 := Lib.hid (And.intro hW (And.intro (H13.out.2.1.trans' hC (by have := H13.out.2.2; simp; omega)) H13.out.2.2))
  have Ovl := Lib.hid (And.intro (own_kept Ovl.out.1 hC (fun k hk => by have h1 := Ovl.out.2; first | (simp at hk; done) | (simp at hk; rcases hk with rfl | rfl <;> exact own_notin Ovl.out.1 (by omega)))) Ovl.out.2)
  have Ovm := Lib.hid (And.intro (own_kept Ovm.out.1 hC (fun k hk => by have h1 := Ovm.out.2; first | (simp at hk; done) | (simp at hk; rcases hk with rfl | rfl <;> exact own_notin Ovm.out.1 (by omega)))) Ovm.out.2)
  have Ovn := Lib.hid (And.intro (own_kept Ovn.out.1 hC (fun k hk => by have h1 := Ovn.out.2; first | (simp at hk; done) | (simp at hk; rcases hk with rfl | rfl <;> exact own_notin Ovn.out.1 (by omega)))) Ovn.out.2)
  clear hW hC
  go_wp2_with (first | fail | (go_at_call 8; go_in))
  refine (firstc ab mb 6 [(3, 9)] w14 H14.out.1).mono ?_
  rintro e w15 ⟨rfl, hC⟩
  rw [show headT (ordL [(3, 9)]) = 3 from by decide, show headB (ordL [(3, 9)]) = true from by decide]
  have H15 := Lib.hid (And.intro (H14.out.1.kept hC (by simp) (by simp)) (And.intro (H14.out.2.1.trans hC) H14.out.2.2))
  have Ovl := Lib.hid (And.intro (own_kept Ovl.out.1 hC (fun k hk => by have h1 := Ovl.out.2; first | (simp at hk; done) | (simp at hk; rcases hk with rfl | rfl <;> exact own_notin Ovl.out.1 (by omega)))) Ovl.out.2)
  have Ovm := Lib.hid (And.intro (own_kept Ovm.out.1 hC (fun k hk => by have h1 := Ovm.out.2; first | (simp at hk; done) | (simp at hk; rcases hk with rfl | rfl <;> exact own_notin Ovm.out.1 (by omega)))) Ovm.out.2)
  have Ovn := Lib.hid (And.intro (own_kept Ovn.out.1 hC (fun k hk => by have h1 := Ovn.out.2; first | (simp at hk; done) | (simp at hk; rcases hk with rfl | rfl <;> exact own_notin Ovn.out.1 (by omega)))) Ovn.out.2)
  clear hC
  go_wp2_with (first | fail | (go_at_call 8; go_in))
  refine (lenc ab mb 6 [(3, 9)] w15 H15.out.1).mono ?_
  rintro e w16 ⟨rfl, rfl⟩
  rw [show (([(3, 9)] : WL).length : Int) = 1 from rfl]
  go_wp2_with (first | fail | (go_at_call 8; go_in))
  refine (clearc ab mb 6 [(3, 9)] w15 H15.out.1).mono ?_
  rintro e w16 ⟨vq, rfl, ho, hW, hC⟩
  rw [show ordT [(3, 9)] = [3] from by decide] at ho
  have H16 := Lib.hid (And.intro hW (And.intro (H15.out.2.1.trans' hC (by have := H15.out.2.2; simp; omega)) H15.out.2.2))
  have Ovl := Lib.hid (And.intro (own_kept Ovl.out.1 hC (fun k hk => by have h1 := Ovl.out.2; first | (simp at hk; done) | (simp at hk; rcases hk with rfl | rfl <;> exact own_notin Ovl.out.1 (by omega)))) Ovl.out.2)
  have Ovm := Lib.hid (And.intro (own_kept Ovm.out.1 hC (fun k hk => by have h1 := Ovm.out.2; first | (simp at hk; done) | (simp at hk; rcases hk with rfl | rfl <;> exact own_notin Ovm.out.1 (by omega)))) Ovm.out.2)
  have Ovn := Lib.hid (And.intro (own_kept Ovn.out.1 hC (fun k hk => by have h1 := Ovn.out.2; first | (simp at hk; done) | (simp at hk; rcases hk with rfl | rfl <;> exact own_notin Ovn.out.1 (by omega)))) Ovn.out.2)
  have Ovq := Lib.hid (And.intro ho (H15.out.1.lt))
  clear ho hW hC
  go_wp2_with (first | fail | (go_at_call 8; go_in))
  refine (sameInts_any vl _ [2, 1, 3] [2, 1, 3] _ (IsInts.of_own (own_kept Ovl.out.1 ((Chg.refl [] w16).alloc _) (by simp))) (IsInts.of_blk (ts := [2, 1, 3]) (heap_alloc_eq w16 (.cells #[.int .i64 2, .int .i64 1, .int .i64 3] 3))) (by simp) (by simp)).mono ?_
  rintro e w17 ⟨rfl, hC⟩
  rw [show decide (([2, 1, 3] : List Int) = [2, 1, 3]) = true from by decide]
  have hC := ((Chg.refl [] w16).alloc (.cells #[.int .i64 2, .int .i64 1, .int .i64 3] 3)).trans hC
  have H17 := Lib.hid (And.intro (H16.out.1.kept hC (by simp) (by simp)) (And.intro (H16.out.2.1.trans hC) H16.out.2.2))
  have Ovl := Lib.hid (And.intro (own_kept Ovl.out.1 hC (fun k hk => by have h1 := Ovl.out.2; first | (simp at hk; done) | (simp at hk; rcases hk with rfl | rfl <;> exact own_notin Ovl.out.1 (by omega)))) Ovl.out.2)
  have Ovm := Lib.hid (And.intro (own_kept Ovm.out.1 hC (fun k hk => by have h1 := Ovm.out.2; first | (simp at hk; done) | (simp at hk; rcases hk with rfl | rfl <;> exact own_notin Ovm.out.1 (by omega)))) Ovm.out.2)
  have Ovn := Lib.hid (And.intro (own_kept Ovn.out.1 hC (fun k hk => by have h1 := Ovn.out.2; first | (simp at hk; done) | (simp at hk; rcases hk with rfl | rfl <;> exact own_notin Ovn.out.1 (by omega)))) Ovn.out.2)
  have Ovq := Lib.hid (And.intro (own_kept Ovq.out.1 hC (fun k hk => by have h1 := Ovq.out.2; first | (simp at hk; done) | (simp at hk; rcases hk with rfl | rfl <;> exact own_notin Ovq.out.1 (by omega)))) Ovq.out.2)
  clear hC
  go_wp2_with (first | fail | (go_at_call 8; go_in))
  refine (sameInts_any vm _ [2, 3, 1] [2, 3, 1] _ (IsInts.of_own (own_kept Ovm.out.1 ((Chg.refl [] w17).alloc _) (by simp))) (IsInts.of_blk (ts := [2, 3, 1]) (heap_alloc_eq w17 (.cells #[.int .i64 2, .int .i64 3, .int .i64 1] 3))) (by simp) (by simp)).mono ?_
  rintro e w18 ⟨rfl, hC⟩
  rw [show decide (([2, 3, 1] : List Int) = [2, 3, 1]) = true from by decide]
  have hC := ((Chg.refl [] w17).alloc (.cells #[.int .i64 2, .int .i64 3, .int .i64 1] 3)).trans hC
  have H18 := Lib.hid (And.intro (H17.out.1.kept hC (by simp) (by simp)) (And.intro (H17.out.2.1.trans hC) H17.out.2.2))
  have Ovl := Lib.hid (And.intro (own_kept Ovl.out.1 hC (fun k hk => by have h1 := Ovl.out.2; first | (simp at hk; done) | (simp at hk; rcases hk with rfl | rfl <;> exact own_notin Ovl.out.1 (by omega)))) Ovl.out.2)
  have Ovm := Lib.hid (And.intro (own_kept Ovm.out.1 hC (fun k hk => by have h1 := Ovm.out.2; first | (simp at hk; done) | (simp at hk; rcases hk with rfl | rfl <;> exact own_notin Ovm.out.1 (by omega)))) Ovm.out.2)
  have Ovn := Lib.hid (And.intro (own_kept Ovn.out.1 hC (fun k hk => by have h1 := Ovn.out.2; first | (simp at hk; done) | (simp at hk; rcases hk with rfl | rfl <;> exact own_notin Ovn.out.1 (by omega)))) Ovn.out.2)
  have Ovq := Lib.hid (And.intro (own_kept Ovq.out.1 hC (fun k hk => by have h1 := Ovq.out.2; first | (simp at hk; done) | (simp at hk; rcases hk with rfl | rfl <;> exact own_notin Ovq.out.1 (by omega)))) Ovq.out.2)
  clear hC
  go_wp2_with (first | fail | (go_at_call 8; go_in))
  refine (sameInts_any vn _ [1, 2, 3] [1, 2, 3] _ (IsInts.of_own (own_kept Ovn.out.1 ((Chg.refl [] w18).alloc _) (by simp))) (IsInts.of_blk (ts := [1, 2, 3]) (heap_alloc_eq w18 (.cells #[.int .i64 1, .int .i64 2, .int .i64 3] 3))) (by simp) (by simp)).mono ?_
  rintro e w19 ⟨rfl, hC⟩
  rw [show decide (([1, 2, 3] : List Int) = [1, 2, 3]) = true from by decide]
  have hC := ((Chg.refl [] w18).alloc (.cells #[.int .i64 1, .int .i64 2, .int .i64 3] 3)).trans hC
  have H19 := Lib.hid (And.intro (H18.out.1.kept hC (by simp) (by simp)) (And.intro (H18.out.2.1.trans hC) H18.out.2.2))
  have Ovl := Lib.hid (And.intro (own_kept Ovl.out.1 hC (fun k hk => by have h1 := Ovl.out.2; first | (simp at hk; done) | (simp at hk; rcases hk with rfl | rfl <;> exact own_notin Ovl.out.1 (by omega)))) Ovl.out.2)
  have Ovm := Lib.hid (And.intro (own_kept Ovm.out.1 hC (fun k hk => by have h1 := Ovm.out.2; first | (simp at hk; done) | (simp at hk; rcases hk with rfl | rfl <;> exact own_notin Ovm.out.1 (by omega)))) Ovm.out.2)
  have Ovn := Lib.hid (And.intro (own_kept Ovn.out.1 hC (fun k hk => by have h1 := Ovn.out.2; first | (simp at hk; done) | (simp at hk; rcases hk with rfl | rfl <;> exact own_notin Ovn.out.1 (by omega)))) Ovn.out.2)
  have Ovq := Lib.hid (And.intro (own_kept Ovq.out.1 hC (fun k hk => by have h1 := Ovq.out.2; first | (simp at hk; done) | (simp at hk; rcases hk with rfl | rfl <;> exact own_notin Ovq.out.1 (by omega)))) Ovq.out.2)
  clear hC
  go_wp2_with (first | fail | (go_at_call 8; go_in))
  refine (sameInts_any vq _ [3] [3] _ (IsInts.of_own (own_kept Ovq.out.1 ((Chg.refl [] w19).alloc _) (by simp))) (IsInts.of_blk (ts := [3]) (heap_alloc_eq w19 (.cells #[.int .i64 3] 3))) (by simp) (by simp)).mono ?_
  rintro e w20 ⟨rfl, hC⟩
  rw [show decide (([3] : List Int) = [3]) = true from by decide]
  have hC := ((Chg.refl [] w19).alloc (.cells #[.int .i64 3] 3)).trans hC
  have H20 := Lib.hid (And.intro (H19.out.1.kept hC (by simp) (by simp)) (And.intro (H19.out.2.1.trans hC) H19.out.2.2))
  have Ovl := Lib.hid (And.intro (own_kept Ovl.out.1 hC (fun k hk => by have h1 := Ovl.out.2; first | (simp at hk; done) | (simp at hk; rcases hk with rfl | rfl <;> exact own_notin Ovl.out.1 (by omega)))) Ovl.out.2)
  have Ovm := Lib.hid (And.intro (own_kept Ovm.out.1 hC (fun k hk => by have h1 := Ovm.out.2; first | (simp at hk; done) | (simp at hk; rcases hk with rfl | rfl <;> exact own_notin Ovm.out.1 (by omega)))) Ovm.out.2)
  have Ovn := Lib.hid (And.intro (own_kept Ovn.out.1 hC (fun k hk => by have h1 := Ovn.out.2; first | (simp at hk; done) | (simp at hk; rcases hk with rfl | rfl <;> exact own_notin Ovn.out.1 (by omega)))) Ovn.out.2)
  have Ovq := Lib.hid (And.intro (own_kept Ovq.out.1 hC (fun k hk => by have h1 := Ovq.out.2; first | (simp at hk; done) | (simp at hk; rcases hk with rfl | rfl <;> exact own_notin Ovq.out.1 (by omega)))) Ovq.out.2)
  clear hC
  go_wp2_with (first | fail | (go_at_call 8; go_in))
  go_ret
  exact ⟨rfl, H20.out.2.1⟩

end Go.Proofs.Ytohkjiibjljmmaa
