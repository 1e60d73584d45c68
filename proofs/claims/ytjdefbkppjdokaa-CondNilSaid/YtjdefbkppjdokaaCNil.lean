/- Package cond: conditions that are not there (written by wip/nil16.py). -/
import Derived.Test.YtjdefbkppjdokaaWz
import Derived.Test.YtjdefbkppjdokaaCe
import Derived.Test.YtjdefbkppjdokaaCKnown
namespace Go.Proofs.Ytjdefbkppjdokaa
open Go.RowKit

/-- No condition, or a zero one. -/
def CNo (w : World) (p : Option Addr) : Prop := p = none ∨ ∃ cb, p = some ⟨cb, 0, none⟩ ∧ w.heap[cb]? = some (.cells #[.pointer none, .int .i64 0] 53 (0, 0))
theorem CNo.calm {w w' : World} {p : Option Addr} (h : CNo w p) (hC : Chg [] w w') : CNo w' p := by
  rcases h with h | ⟨cb, h1, h2⟩
  · exact .inl h
  · exact .inr ⟨cb, h1, hC.blk h2 (by simp)⟩

set_option maxRecDepth 100000 in
theorem nof (p : Option Addr) (w : World) (h : CNo w p) : Calls Try.prog 26 #[.pointer p] w fun e w' => e = .returned (.agg #[.pointer none, .int .i64 0]) ∧ Chg [] w w' := by
  rcases h with rfl | ⟨cb, rfl, hb⟩
  · go_enter Try.func26, Try.ntmps26
    go_wp2
    refine bodyPost_ret (v := .agg #[.pointer none, .int .i64 0]) (by simp [results, Try.results26, go_sem]) rfl ⟨rfl, ?_⟩
    exact (Chg.refl [] w).alloc _
  · have c0 := cellB hb (i := 0) rfl
    have c1 := cellB hb (i := 1) rfl
    have hlt := lt_of_blk hb
    clear hb
    go_enter Try.func26, Try.ntmps26
    go_wp2
    refine bodyPost_ret (v := .agg #[.pointer none, .int .i64 0]) (by simp [results, Try.results26, go_sem]) rfl ⟨rfl, ?_⟩
    exact (Chg.refl [] w).alloc _

set_option maxRecDepth 100000 in
theorem nclen (p : Option Addr) (w : World) (h : CNo w p) : Calls Try.prog 13 #[.pointer p] w fun e w' => e = .returned (.int .i64 0) ∧ Chg [] w w' := by
  have H0 := Lib.hid (And.intro h (Chg.refl [] w))
  clear h
  go_enter Try.func13, Try.ntmps13
  go_wp2_with fail
  refine (nof p w (H0.out.1.calm H0.out.2)).mono ?_
  rintro e w1 ⟨rfl, hC⟩
  have H1 := Lib.hid (And.intro trivial (H0.out.2.trans hC))
  clear hC
  go_wp2_with fail
  refine (nil_len w1).mono ?_
  rintro e w2 ⟨rfl, rfl⟩
  have H2 := H1
  go_wp2
  go_ret
  exact ⟨rfl, H2.out.2⟩

set_option maxRecDepth 100000 in
theorem ncmutex (p : Option Addr) (w : World) (h : CNo w p) : Calls Try.prog 10 #[.pointer p] w fun e w' => e = .returned (.tuple #[.int .i64 0, .bool false]) ∧ Chg [] w w' := by
  have H0 := Lib.hid (And.intro h (Chg.refl [] w))
  clear h
  go_enter Try.func10, Try.ntmps10
  go_wp2_with fail
  refine (nclen p w (H0.out.1.calm H0.out.2)).mono ?_
  rintro e w1 ⟨rfl, hC⟩
  have H1 := Lib.hid (And.intro trivial (H0.out.2.trans hC))
  clear hC
  go_wp2
  go_ret2
  exact ⟨rfl, H1.out.2⟩

set_option maxRecDepth 100000 in
theorem nchas (p : Option Addr) (w : World) (h : CNo w p) : Calls Try.prog 45 #[.pointer p, .int .i64 0] w fun e w' => e = .returned (.bool false) ∧ Chg [] w w' := by
  have H0 := Lib.hid (And.intro h (Chg.refl [] w))
  clear h
  go_enter Try.func45, Try.ntmps45
  go_wp2_with fail
  refine (nof p w (H0.out.1.calm H0.out.2)).mono ?_
  rintro e w1 ⟨rfl, hC⟩
  have H1 := Lib.hid (And.intro trivial (H0.out.2.trans hC))
  clear hC
  go_wp2_with fail
  refine (nil_has 0 w1).mono ?_
  rintro e w2 ⟨rfl, rfl⟩
  have H2 := H1
  go_wp2
  go_ret
  exact ⟨rfl, H2.out.2⟩

set_option maxRecDepth 100000 in
theorem nclist (p : Option Addr) (w : World) (h : CNo w p) : Calls Try.prog 9 #[.pointer p] w fun e w' => e = .returned (.slice none 0 0) ∧ Chg [] w w' := by
  have H0 := Lib.hid (And.intro h (Chg.refl [] w))
  clear h
  go_enter Try.func9, Try.ntmps9
  go_wp2_with fail
  refine (nof p w (H0.out.1.calm H0.out.2)).mono ?_
  rintro e w1 ⟨rfl, hC⟩
  have H1 := Lib.hid (And.intro trivial (H0.out.2.trans hC))
  clear hC
  go_wp2_with fail
  refine (nil_list w1).mono ?_
  rintro e w2 ⟨rfl, hC⟩
  have H2 := Lib.hid (And.intro trivial (H1.out.2.trans hC))
  clear hC
  go_wp2
  go_ret
  exact ⟨rfl, H2.out.2⟩

set_option maxRecDepth 100000 in
theorem ncleave (p : Option Addr) (w : World) (h : CNo w p) : Calls Try.prog 17 #[.pointer p, .int .i64 0] w fun e w' => e = .returned (.int .i64 1) ∧ Chg [] w w' := by
  have H0 := Lib.hid (And.intro h (Chg.refl [] w))
  clear h
  go_enter Try.func17, Try.ntmps17
  go_wp2_with fail
  refine (nof p w (H0.out.1.calm H0.out.2)).mono ?_
  rintro e w1 ⟨rfl, hC⟩
  have H1 := Lib.hid (And.intro trivial (H0.out.2.trans hC))
  clear hC
  go_wp2_with fail
  refine (nil_leave 0 w1).mono ?_
  rintro e w2 ⟨rfl, rfl⟩
  have H2 := H1
  go_wp2
  go_ret
  exact ⟨rfl, H2.out.2⟩

set_option maxRecDepth 100000 in
theorem ncchange (p : Option Addr) (w : World) (h : CNo w p) : Calls Try.prog 18 #[.pointer p, .int .i64 0, .int .i64 1] w fun e w' => e = .returned (.int .i64 1) ∧ Chg [] w w' := by
  have H0 := Lib.hid (And.intro h (Chg.refl [] w))
  clear h
  go_enter Try.func18, Try.ntmps18
  go_wp2_with fail
  refine (nof p w (H0.out.1.calm H0.out.2)).mono ?_
  rintro e w1 ⟨rfl, hC⟩
  have H1 := Lib.hid (And.intro trivial (H0.out.2.trans hC))
  clear hC
  go_wp2_with fail
  refine (nil_change 0 1 w1).mono ?_
  rintro e w2 ⟨rfl, rfl⟩
  have H2 := H1
  go_wp2
  go_ret
  exact ⟨rfl, H2.out.2⟩

set_option maxRecDepth 100000 in
theorem nctaken (p : Option Addr) (w : World) (h : CNo w p) : Calls Try.prog 31 #[.pointer p, .func (.func 32) #[] #[]] w fun e w' => e = .returned (.tuple #[.int .i64 0, .bool false]) ∧ Chg [] w w' := by
  have H0 := Lib.hid (And.intro h (Chg.refl [] w))
  clear h
  go_enter Try.func31, Try.ntmps31
  go_wp2_with fail
  refine (nof p w (H0.out.1.calm H0.out.2)).mono ?_
  rintro e w1 ⟨rfl, hC⟩
  have H1 := Lib.hid (And.intro trivial (H0.out.2.trans hC))
  clear hC
  go_wp2_with fail
  refine (nil_take w1).mono ?_
  rintro e w2 ⟨rfl, hC⟩
  have H2 := Lib.hid (And.intro trivial (H1.out.2.trans hC))
  clear hC
  go_wp2
  go_ret2
  exact ⟨rfl, H2.out.2⟩

set_option maxRecDepth 100000 in
theorem ncsignal (p : Option Addr) (w : World) (h : CNo w p) : Calls Try.prog 15 #[.pointer p] w fun e w' => e = .returned (.tuple #[.int .i64 0, .bool false]) ∧ Chg [] w w' := by
  have H0 := Lib.hid (And.intro h (Chg.refl [] w))
  clear h
  go_enter Try.func15, Try.ntmps15
  go_wp2_with fail
  refine (nctaken p w (H0.out.1.calm H0.out.2)).mono ?_
  rintro e w1 ⟨rfl, hC⟩
  have H1 := Lib.hid (And.intro trivial (H0.out.2.trans hC))
  clear hC
  go_wp2
  go_ret2
  exact ⟨rfl, H1.out.2⟩

set_option maxRecDepth 100000 in
theorem ncwait (p : Option Addr) (w : World) (h : CNo w p) : Calls Try.prog 11 #[.pointer p, .int .i64 0, .int .i64 1, .int .i64 0] w fun e w' => e = .returned (.int .i64 1) ∧ Chg [] w w' := by
  have H0 := Lib.hid (And.intro h (Chg.refl [] w))
  clear h
  go_enter Try.func11, Try.ntmps11
  go_wp2_with fail
  refine (nof p w (H0.out.1.calm H0.out.2)).mono ?_
  rintro e w1 ⟨rfl, hC⟩
  have H1 := Lib.hid (And.intro trivial (H0.out.2.trans hC))
  clear hC
  go_wp2
  go_ret
  exact ⟨rfl, H1.out.2⟩

set_option maxRecDepth 100000 in
theorem nccopy (p : Option Addr) (w : World) (h : CNo w p) : Calls Try.prog 40 #[.pointer p] w fun e w' => e = .returned (.pointer none) ∧ Chg [] w w' := by
  have H0 := Lib.hid (And.intro h (Chg.refl [] w))
  clear h
  go_enter Try.func40, Try.ntmps40
  go_wp2_with fail
  refine (nof p w (H0.out.1.calm H0.out.2)).mono ?_
  rintro e w1 ⟨rfl, hC⟩
  have H1 := Lib.hid (And.intro trivial (H0.out.2.trans hC))
  clear hC
  go_wp2
  go_ret
  exact ⟨rfl, H1.out.2⟩

set_option maxRecDepth 100000 in
theorem ncsame (p : Option Addr) (w : World) (h : CNo w p) : Calls Try.prog 21 #[.pointer p, .pointer none] w fun e w' => e = .returned (.bool true) ∧ Chg [] w w' := by
  have H := Lib.hid h
  clear h
  go_enter Try.func21, Try.ntmps21
  go_wp2_with fail
  refine (ncmutex p w H.out).mono ?_
  rintro e w1 ⟨rfl, hC⟩
  have H1 := Lib.hid hC
  clear hC
  go_wp2_with fail
  refine (ncmutex none w1 (.inl rfl)).mono ?_
  rintro e w2 ⟨rfl, hC⟩
  have H2 := Lib.hid (H1.out.trans hC)
  clear hC
  go_wp2_with fail
  refine (nof p w2 (H.out.calm H2.out)).mono ?_
  rintro e w3 ⟨rfl, hC⟩
  have H3 := Lib.hid (H2.out.trans hC)
  clear hC
  go_wp2_with fail
  refine (nof none w3 (.inl rfl)).mono ?_
  rintro e w4 ⟨rfl, hC⟩
  have H4 := Lib.hid (H3.out.trans hC)
  clear hC
  go_wp2_with fail
  refine (nil_same2 w4).mono ?_
  rintro e w5 ⟨rfl, rfl⟩
  go_wp2
  go_ret
  exact ⟨rfl, H4.out⟩

set_option maxRecDepth 100000 in
theorem ncsame1 (cb ab mb : Nat) (N : Int) (L : WL) (w : World) (h : CAt w cb ab mb N L 0) : Calls Try.prog 21 #[.pointer (some ⟨cb, 0, none⟩), .pointer none] w fun e w' => e = .returned (.bool false) ∧ Chg [] w w' := by
  have H := Lib.hid h
  clear h
  go_enter Try.func21, Try.ntmps21
  go_wp2_with fail
  refine (cmutexc cb ab mb N L 0 w H.out).mono ?_
  rintro e w1 ⟨rfl, hC⟩
  rw [show muM L 0 = 0 by unfold muM; split <;> rfl]
  have H1 := Lib.hid hC
  clear hC
  go_wp2_with fail
  refine (ncmutex none w1 (.inl rfl)).mono ?_
  rintro e w2 ⟨rfl, hC⟩
  have H2 := Lib.hid (H1.out.trans hC)
  clear hC
  go_wp2_with fail
  refine (ofc cb ab mb N L 0 w2 (H.out.calm H2.out)).mono ?_
  rintro e w3 ⟨rfl, hC⟩
  have H3 := Lib.hid (H2.out.trans hC)
  clear hC
  go_wp2_with fail
  refine (nof none w3 (.inl rfl)).mono ?_
  rintro e w4 ⟨rfl, hC⟩
  have H4 := Lib.hid (H3.out.trans hC)
  clear hC
  go_wp2_with fail
  refine (nil_same1 ab mb N L w4 (H.out.calm H4.out).list).mono ?_
  rintro e w5 ⟨rfl, rfl⟩
  go_wp2
  go_ret
  exact ⟨rfl, H4.out⟩

set_option maxRecDepth 100000 in
theorem ncbroad (p : Option Addr) (w : World) (h : CNo w p) : Calls Try.prog 16 #[.pointer p] w fun e w' => e = .returned (.slice none 0 0) ∧ Chg [] w w' := by
  have H := Lib.hid h
  clear h
  go_enter Try.func16, Try.ntmps16
  go_wp2
  go_step3
  go_wp2
  go_step3
  go_wp2
  refine wp_loop_rounds 1 ?_
  rw [rounds_succ]
  go_wp2_with fail
  refine (ncsignal p w H.out).mono ?_
  rintro e w1 ⟨rfl, hC⟩
  have H1 := Lib.hid hC
  clear hC
  go_wp2
  try rw [Exit.noGoto_ret]
  go_ret
  exact ⟨rfl, H1.out⟩

set_option maxRecDepth 100000 in
set_option maxHeartbeats 1000000 in
theorem nothing16 (p : Option Addr) (w : World) (h : CNo w p) : Calls Try.prog 24 #[.pointer p] w fun e w' => e = .returned (.bool true) ∧ Chg [] w w' := by
  have H0 := Lib.hid (And.intro h (Chg.refl [] w))
  clear h
  go_enter Try.func24, Try.ntmps24
  go_wp2_with fail
  refine (ncsignal p w (H0.out.1.calm H0.out.2)).mono ?_
  rintro e w1 ⟨rfl, hC⟩
  have H1 := Lib.hid (And.intro trivial (H0.out.2.trans hC))
  clear hC
  go_wp2_with (first | fail | (go_at_call 12; go_in))
  refine (ncmutex p w1 (H0.out.1.calm H1.out.2)).mono ?_
  rintro e w2 ⟨rfl, hC⟩
  have H2 := Lib.hid (And.intro trivial (H1.out.2.trans hC))
  clear hC
  go_wp2_with (first | fail | (go_at_call 12; go_in))
  refine (ncwait p w2 (H0.out.1.calm H2.out.2)).mono ?_
  rintro e w3 ⟨rfl, hC⟩
  have H3 := Lib.hid (And.intro trivial (H2.out.2.trans hC))
  clear hC
  go_wp2_with (first | fail | (go_at_call 12; go_in))
  refine (ncbroad p w3 (H0.out.1.calm H3.out.2)).mono ?_
  rintro e w4 ⟨rfl, hC⟩
  have H4 := Lib.hid (And.intro trivial (H3.out.2.trans hC))
  clear hC
  go_wp2_with (first | fail | (go_at_call 12; go_in))
  refine (ncleave p w4 (H0.out.1.calm H4.out.2)).mono ?_
  rintro e w5 ⟨rfl, hC⟩
  have H5 := Lib.hid (And.intro trivial (H4.out.2.trans hC))
  clear hC
  go_wp2_with (first | fail | (go_at_call 12; go_in))
  refine (ncchange p w5 (H0.out.1.calm H5.out.2)).mono ?_
  rintro e w6 ⟨rfl, hC⟩
  have H6 := Lib.hid (And.intro trivial (H5.out.2.trans hC))
  clear hC
  go_wp2_with (first | fail | (go_at_call 12; go_in))
  refine (nchas p w6 (H0.out.1.calm H6.out.2)).mono ?_
  rintro e w7 ⟨rfl, hC⟩
  have H7 := Lib.hid (And.intro trivial (H6.out.2.trans hC))
  clear hC
  go_wp2_with (first | fail | (go_at_call 12; go_in))
  refine (nclen p w7 (H0.out.1.calm H7.out.2)).mono ?_
  rintro e w8 ⟨rfl, hC⟩
  have H8 := Lib.hid (And.intro trivial (H7.out.2.trans hC))
  clear hC
  go_wp2_with (first | fail | (go_at_call 12; go_in))
  refine (nclist p w8 (H0.out.1.calm H8.out.2)).mono ?_
  rintro e w9 ⟨rfl, hC⟩
  have H9 := Lib.hid (And.intro trivial (H8.out.2.trans hC))
  clear hC
  go_wp2_with (first | fail | (go_at_call 12; go_in))
  refine (nccopy p w9 (H0.out.1.calm H9.out.2)).mono ?_
  rintro e w10 ⟨rfl, hC⟩
  have H10 := Lib.hid (And.intro trivial (H9.out.2.trans hC))
  clear hC
  go_wp2_with (first | fail | (go_at_call 12; go_in))
  refine (ncsame p w10 (H0.out.1.calm H10.out.2)).mono ?_
  rintro e w11 ⟨rfl, hC⟩
  have H11 := Lib.hid (And.intro trivial (H10.out.2.trans hC))
  clear hC
  go_wp2_with (first | fail | (go_at_call 12; go_in))
  go_ret
  exact ⟨rfl, H11.out.2⟩

end Go.Proofs.Ytjdefbkppjdokaa
