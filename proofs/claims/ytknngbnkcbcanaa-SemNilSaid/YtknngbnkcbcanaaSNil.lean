
/- Package sem: semaphores and barriers that are not there (written by wip/nil14.py). -/
import Derived.Test.YtknngbnkcbcanaaWz
import Derived.Test.YtknngbnkcbcanaaSKnown
namespace Go.Proofs.Ytknngbnkcbcanaa
open Go.RowKit

/-- No object, or a zero one. -/
def PNo (T : TypeId) (w : World) (p : Option Addr) : Prop := p = none ∨ ∃ cb, p = some ⟨cb, 0, none⟩ ∧ w.heap[cb]? = some (.cells #[.pointer none, .int .i64 0] T (0, 0))
theorem PNo.calm {T : TypeId} {w w' : World} {p : Option Addr} (h : PNo T w p) (hC : Chg [] w w') : PNo T w' p := by
  rcases h with h | ⟨cb, h1, h2⟩
  · exact .inl h
  · exact .inr ⟨cb, h1, hC.blk h2 (by simp)⟩

set_option maxRecDepth 100000 in
theorem nln_list (w : World) : Calls Try.prog 35 #[.agg #[.pointer none]] w fun e w' => e = .returned (.slice none 0 0) ∧ Chg [] w w' := by
  have hC0 : Chg [] w (w.alloc (.cells #[.pointer none] 66)) := (Chg.refl _ _).alloc _
  go_enter Try.func35, Try.ntmps35
  go_wp2_with fail
  refine (nil_list _).mono ?_
  rintro e w1 ⟨rfl, hC⟩
  go_wp2
  go_ret
  exact ⟨rfl, hC0.trans hC⟩

set_option maxRecDepth 100000 in
theorem nln_len (w : World) : Calls Try.prog 38 #[.agg #[.pointer none]] w fun e w' => e = .returned (.int .i64 0) ∧ Chg [] w w' := by
  have hC0 : Chg [] w (w.alloc (.cells #[.pointer none] 66)) := (Chg.refl _ _).alloc _
  go_enter Try.func38, Try.ntmps38
  go_wp2_with fail
  refine (nil_len _).mono ?_
  rintro e w1 ⟨rfl, rfl⟩
  go_wp2
  go_ret
  exact ⟨rfl, hC0⟩

set_option maxRecDepth 100000 in
theorem nln_leave (w : World) : Calls Try.prog 40 #[.agg #[.pointer none], .int .i64 0] w fun e w' => e = .returned (.int .i64 1) ∧ Chg [] w w' := by
  have hC0 : Chg [] w (w.alloc (.cells #[.pointer none] 66)) := (Chg.refl _ _).alloc _
  go_enter Try.func40, Try.ntmps40
  go_wp2_with fail
  refine (nil_leave 0 _).mono ?_
  rintro e w1 ⟨rfl, rfl⟩
  go_wp2
  go_ret
  exact ⟨rfl, hC0⟩

set_option maxRecDepth 100000 in
theorem nln_change (w : World) : Calls Try.prog 41 #[.agg #[.pointer none], .int .i64 0, .int .i64 1] w fun e w' => e = .returned (.int .i64 1) ∧ Chg [] w w' := by
  have hC0 : Chg [] w (w.alloc (.cells #[.pointer none] 66)) := (Chg.refl _ _).alloc _
  go_enter Try.func41, Try.ntmps41
  go_wp2_with fail
  refine (nil_change 0 1 _).mono ?_
  rintro e w1 ⟨rfl, rfl⟩
  go_wp2
  go_ret
  exact ⟨rfl, hC0⟩

set_option maxRecDepth 100000 in
theorem nask (w : World) : Calls Try.prog 36 #[.pointer none, .func (.func 37) #[.pointer none] #[], .int .i64 0, .int .i64 1] w fun e w' => e = .returned (.int .i64 1) ∧ w = w' := by
  go_enter Try.func36, Try.ntmps36
  go_wp2
  go_ret
  exact ⟨rfl, rfl⟩

set_option maxRecDepth 100000 in
theorem nsof (p : Option Addr) (w : World) (h : PNo 68 w p) : Calls Try.prog 34 #[.pointer p] w fun e w' => e = .returned (.agg #[.pointer none, .int .i64 0]) ∧ Chg [] w w' := by
  rcases h with rfl | ⟨cb, rfl, hb⟩
  · go_enter Try.func34, Try.ntmps34
    go_wp2
    refine bodyPost_ret (v := .agg #[.pointer none, .int .i64 0]) (by simp [results, Try.results34, go_sem]) rfl ⟨rfl, ?_⟩
    exact (Chg.refl [] w).alloc _
  · have c0 := cellB hb (i := 0) rfl
    have c1 := cellB hb (i := 1) rfl
    have hlt := lt_of_blk hb
    clear hb
    go_enter Try.func34, Try.ntmps34
    go_wp2
    refine bodyPost_ret (v := .agg #[.pointer none, .int .i64 0]) (by simp [results, Try.results34, go_sem]) rfl ⟨rfl, ?_⟩
    exact (Chg.refl [] w).alloc _

set_option maxRecDepth 100000 in
theorem nslist (p : Option Addr) (w : World) (h : PNo 68 w p) : Calls Try.prog 10 #[.pointer p] w fun e w' => e = .returned (.slice none 0 0) ∧ Chg [] w w' := by
  have H0 := Lib.hid (And.intro h (Chg.refl [] w))
  clear h
  go_enter Try.func10, Try.ntmps10
  go_wp2_with fail
  refine (nsof p w (H0.out.1.calm H0.out.2)).mono ?_
  rintro e w1 ⟨rfl, hC⟩
  have H1 := Lib.hid (And.intro trivial (H0.out.2.trans hC))
  clear hC
  go_wp2_with fail
  refine (nln_list w1).mono ?_
  rintro e w2 ⟨rfl, hC⟩
  have H2 := Lib.hid (And.intro trivial (H1.out.2.trans hC))
  clear hC
  go_wp2
  go_ret
  exact ⟨rfl, H2.out.2⟩

set_option maxRecDepth 100000 in
theorem nslen (p : Option Addr) (w : World) (h : PNo 68 w p) : Calls Try.prog 12 #[.pointer p] w fun e w' => e = .returned (.int .i64 0) ∧ Chg [] w w' := by
  have H0 := Lib.hid (And.intro h (Chg.refl [] w))
  clear h
  go_enter Try.func12, Try.ntmps12
  go_wp2_with fail
  refine (nsof p w (H0.out.1.calm H0.out.2)).mono ?_
  rintro e w1 ⟨rfl, hC⟩
  have H1 := Lib.hid (And.intro trivial (H0.out.2.trans hC))
  clear hC
  go_wp2_with fail
  refine (nln_len w1).mono ?_
  rintro e w2 ⟨rfl, hC⟩
  have H2 := Lib.hid (And.intro trivial (H1.out.2.trans hC))
  clear hC
  go_wp2
  go_ret
  exact ⟨rfl, H2.out.2⟩

set_option maxRecDepth 100000 in
theorem nsleave (p : Option Addr) (w : World) (h : PNo 68 w p) : Calls Try.prog 15 #[.pointer p, .int .i64 0] w fun e w' => e = .returned (.int .i64 1) ∧ Chg [] w w' := by
  have H0 := Lib.hid (And.intro h (Chg.refl [] w))
  clear h
  go_enter Try.func15, Try.ntmps15
  go_wp2_with fail
  refine (nsof p w (H0.out.1.calm H0.out.2)).mono ?_
  rintro e w1 ⟨rfl, hC⟩
  have H1 := Lib.hid (And.intro trivial (H0.out.2.trans hC))
  clear hC
  go_wp2_with fail
  refine (nln_leave w1).mono ?_
  rintro e w2 ⟨rfl, hC⟩
  have H2 := Lib.hid (And.intro trivial (H1.out.2.trans hC))
  clear hC
  go_wp2
  go_ret
  exact ⟨rfl, H2.out.2⟩

set_option maxRecDepth 100000 in
theorem nschange (p : Option Addr) (w : World) (h : PNo 68 w p) : Calls Try.prog 16 #[.pointer p, .int .i64 0, .int .i64 1] w fun e w' => e = .returned (.int .i64 1) ∧ Chg [] w w' := by
  have H0 := Lib.hid (And.intro h (Chg.refl [] w))
  clear h
  go_enter Try.func16, Try.ntmps16
  go_wp2_with fail
  refine (nsof p w (H0.out.1.calm H0.out.2)).mono ?_
  rintro e w1 ⟨rfl, hC⟩
  have H1 := Lib.hid (And.intro trivial (H0.out.2.trans hC))
  clear hC
  go_wp2_with fail
  refine (nln_change w1).mono ?_
  rintro e w2 ⟨rfl, hC⟩
  have H2 := Lib.hid (And.intro trivial (H1.out.2.trans hC))
  clear hC
  go_wp2
  go_ret
  exact ⟨rfl, H2.out.2⟩

set_option maxRecDepth 100000 in
theorem nsvalue (p : Option Addr) (w : World) (h : PNo 68 w p) : Calls Try.prog 17 #[.pointer p] w fun e w' => e = .returned (.int .i64 0) ∧ Chg [] w w' := by
  have H0 := Lib.hid (And.intro h (Chg.refl [] w))
  clear h
  go_enter Try.func17, Try.ntmps17
  go_wp2_with fail
  refine (nsof p w (H0.out.1.calm H0.out.2)).mono ?_
  rintro e w1 ⟨rfl, hC⟩
  have H1 := Lib.hid (And.intro trivial (H0.out.2.trans hC))
  clear hC
  go_wp2
  go_ret
  exact ⟨rfl, H1.out.2⟩

set_option maxRecDepth 100000 in
theorem nscopy (p : Option Addr) (w : World) (h : PNo 68 w p) : Calls Try.prog 47 #[.pointer p] w fun e w' => e = .returned (.pointer none) ∧ Chg [] w w' := by
  have H0 := Lib.hid (And.intro h (Chg.refl [] w))
  clear h
  go_enter Try.func47, Try.ntmps47
  go_wp2_with fail
  refine (nsof p w (H0.out.1.calm H0.out.2)).mono ?_
  rintro e w1 ⟨rfl, hC⟩
  have H1 := Lib.hid (And.intro trivial (H0.out.2.trans hC))
  clear hC
  go_wp2
  go_ret
  exact ⟨rfl, H1.out.2⟩

set_option maxRecDepth 100000 in
theorem nstry (p : Option Addr) (w : World) (h : PNo 68 w p) : Calls Try.prog 13 #[.pointer p] w fun e w' => e = .returned (.bool false) ∧ Chg [] w w' := by
  have H0 := Lib.hid (And.intro h (Chg.refl [] w))
  clear h
  go_enter Try.func13, Try.ntmps13
  go_wp2_with fail
  refine (nsof p w (H0.out.1.calm H0.out.2)).mono ?_
  rintro e w1 ⟨rfl, hC⟩
  have H1 := Lib.hid (And.intro trivial (H0.out.2.trans hC))
  clear hC
  go_wp2
  go_ret
  exact ⟨rfl, H1.out.2⟩

set_option maxRecDepth 100000 in
theorem nspost (p : Option Addr) (w : World) (h : PNo 68 w p) : Calls Try.prog 14 #[.pointer p] w fun e w' => e = .returned (.tuple #[.int .i64 (-1), .int .i64 1]) ∧ Chg [] w w' := by
  have H0 := Lib.hid (And.intro h (Chg.refl [] w))
  clear h
  go_enter Try.func14, Try.ntmps14
  go_wp2_with fail
  refine (nsof p w (H0.out.1.calm H0.out.2)).mono ?_
  rintro e w1 ⟨rfl, hC⟩
  have H1 := Lib.hid (And.intro trivial (H0.out.2.trans hC))
  clear hC
  go_wp2
  go_ret2
  exact ⟨rfl, H1.out.2⟩

set_option maxRecDepth 100000 in
theorem nswait (p : Option Addr) (w : World) (h : PNo 68 w p) : Calls Try.prog 11 #[.pointer p, .int .i64 0, .int .i64 1] w fun e w' => e = .returned (.tuple #[.bool false, .int .i64 1]) ∧ Chg [] w w' := by
  have H0 := Lib.hid (And.intro h (Chg.refl [] w))
  clear h
  go_enter Try.func11, Try.ntmps11
  go_wp2_with fail
  refine (nsof p w (H0.out.1.calm H0.out.2)).mono ?_
  rintro e w1 ⟨rfl, hC⟩
  have H1 := Lib.hid (And.intro trivial (H0.out.2.trans hC))
  clear hC
  go_wp2_with fail
  refine (nask w1).mono ?_
  rintro e wq ⟨rfl, rfl⟩
  go_wp2
  go_ret2
  exact ⟨rfl, H1.out.2⟩

set_option maxRecDepth 100000 in
theorem nssame (p : Option Addr) (w : World) (h : PNo 68 w p) : Calls Try.prog 31 #[.pointer p, .pointer none] w fun e w' => e = .returned (.bool true) ∧ Chg [] w w' := by
  have H := Lib.hid h
  clear h
  go_enter Try.func31, Try.ntmps31
  go_wp2_with fail
  refine (nsof p w H.out).mono ?_
  rintro e w1 ⟨rfl, hC⟩
  have HA := Lib.hid hC
  clear hC
  go_wp2_with fail
  refine (nsof none w1 (.inl rfl)).mono ?_
  rintro e w2 ⟨rfl, hC⟩
  have HB := Lib.hid (((HA.out.trans hC).alloc (.cells #[.pointer none, .int .i64 0] 68)).alloc (.cells #[.pointer none, .int .i64 0] 68))
  clear hC HA
  go_wp2_with fail
  refine (nil_same2 _).mono ?_
  rintro e w5 ⟨rfl, rfl⟩
  go_wp2
  go_ret
  exact ⟨rfl, HB.out⟩

set_option maxRecDepth 100000 in
theorem nssame1 (cb ab mb : Nat) (N : Int) (L : WL) (V : Int) (w : World) (h : PAt 68 w cb ab mb N L V) (hV : V ≠ 0) : Calls Try.prog 31 #[.pointer (some ⟨cb, 0, none⟩), .pointer none] w fun e w' => e = .returned (.bool false) ∧ Chg [] w w' := by
  have H := Lib.hid h
  have hx : (V == 0) = false := by simpa using hV
  clear h hV
  go_enter Try.func31, Try.ntmps31
  go_wp2_with fail
  refine (sofc cb ab mb N L V w H.out).mono ?_
  rintro e w1 ⟨rfl, hC⟩
  have HA := Lib.hid hC
  clear hC
  go_wp2_with fail
  refine (nsof none w1 (.inl rfl)).mono ?_
  rintro e w2 ⟨rfl, hC⟩
  have HB := Lib.hid (((HA.out.trans hC).alloc (.cells #[.pointer (some ⟨ab, 0, none⟩), .int .i64 V] 68)).alloc (.cells #[.pointer none, .int .i64 0] 68))
  clear hC HA
  go_wp2
  go_ret
  exact ⟨rfl, HB.out⟩

set_option maxRecDepth 100000 in
theorem nbof (p : Option Addr) (w : World) (h : PNo 70 w p) : Calls Try.prog 52 #[.pointer p] w fun e w' => e = .returned (.agg #[.pointer none, .int .i64 0]) ∧ Chg [] w w' := by
  rcases h with rfl | ⟨cb, rfl, hb⟩
  · go_enter Try.func52, Try.ntmps52
    go_wp2
    refine bodyPost_ret (v := .agg #[.pointer none, .int .i64 0]) (by simp [results, Try.results52, go_sem]) rfl ⟨rfl, ?_⟩
    exact (Chg.refl [] w).alloc _
  · have c0 := cellB hb (i := 0) rfl
    have c1 := cellB hb (i := 1) rfl
    have hlt := lt_of_blk hb
    clear hb
    go_enter Try.func52, Try.ntmps52
    go_wp2
    refine bodyPost_ret (v := .agg #[.pointer none, .int .i64 0]) (by simp [results, Try.results52, go_sem]) rfl ⟨rfl, ?_⟩
    exact (Chg.refl [] w).alloc _

set_option maxRecDepth 100000 in
theorem nblist (p : Option Addr) (w : World) (h : PNo 70 w p) : Calls Try.prog 27 #[.pointer p] w fun e w' => e = .returned (.slice none 0 0) ∧ Chg [] w w' := by
  have H0 := Lib.hid (And.intro h (Chg.refl [] w))
  clear h
  go_enter Try.func27, Try.ntmps27
  go_wp2_with fail
  refine (nbof p w (H0.out.1.calm H0.out.2)).mono ?_
  rintro e w1 ⟨rfl, hC⟩
  have H1 := Lib.hid (And.intro trivial (H0.out.2.trans hC))
  clear hC
  go_wp2_with fail
  refine (nln_list w1).mono ?_
  rintro e w2 ⟨rfl, hC⟩
  have H2 := Lib.hid (And.intro trivial (H1.out.2.trans hC))
  clear hC
  go_wp2
  go_ret
  exact ⟨rfl, H2.out.2⟩

set_option maxRecDepth 100000 in
theorem nblen (p : Option Addr) (w : World) (h : PNo 70 w p) : Calls Try.prog 26 #[.pointer p] w fun e w' => e = .returned (.int .i64 0) ∧ Chg [] w w' := by
  have H0 := Lib.hid (And.intro h (Chg.refl [] w))
  clear h
  go_enter Try.func26, Try.ntmps26
  go_wp2_with fail
  refine (nbof p w (H0.out.1.calm H0.out.2)).mono ?_
  rintro e w1 ⟨rfl, hC⟩
  have H1 := Lib.hid (And.intro trivial (H0.out.2.trans hC))
  clear hC
  go_wp2_with fail
  refine (nln_len w1).mono ?_
  rintro e w2 ⟨rfl, hC⟩
  have H2 := Lib.hid (And.intro trivial (H1.out.2.trans hC))
  clear hC
  go_wp2
  go_ret
  exact ⟨rfl, H2.out.2⟩

set_option maxRecDepth 100000 in
theorem nbleave (p : Option Addr) (w : World) (h : PNo 70 w p) : Calls Try.prog 29 #[.pointer p, .int .i64 0] w fun e w' => e = .returned (.int .i64 1) ∧ Chg [] w w' := by
  have H0 := Lib.hid (And.intro h (Chg.refl [] w))
  clear h
  go_enter Try.func29, Try.ntmps29
  go_wp2_with fail
  refine (nbof p w (H0.out.1.calm H0.out.2)).mono ?_
  rintro e w1 ⟨rfl, hC⟩
  have H1 := Lib.hid (And.intro trivial (H0.out.2.trans hC))
  clear hC
  go_wp2_with fail
  refine (nln_leave w1).mono ?_
  rintro e w2 ⟨rfl, hC⟩
  have H2 := Lib.hid (And.intro trivial (H1.out.2.trans hC))
  clear hC
  go_wp2
  go_ret
  exact ⟨rfl, H2.out.2⟩

set_option maxRecDepth 100000 in
theorem nbchange (p : Option Addr) (w : World) (h : PNo 70 w p) : Calls Try.prog 50 #[.pointer p, .int .i64 0, .int .i64 1] w fun e w' => e = .returned (.int .i64 1) ∧ Chg [] w w' := by
  have H0 := Lib.hid (And.intro h (Chg.refl [] w))
  clear h
  go_enter Try.func50, Try.ntmps50
  go_wp2_with fail
  refine (nbof p w (H0.out.1.calm H0.out.2)).mono ?_
  rintro e w1 ⟨rfl, hC⟩
  have H1 := Lib.hid (And.intro trivial (H0.out.2.trans hC))
  clear hC
  go_wp2_with fail
  refine (nln_change w1).mono ?_
  rintro e w2 ⟨rfl, hC⟩
  have H2 := Lib.hid (And.intro trivial (H1.out.2.trans hC))
  clear hC
  go_wp2
  go_ret
  exact ⟨rfl, H2.out.2⟩

set_option maxRecDepth 100000 in
theorem nbvalue (p : Option Addr) (w : World) (h : PNo 70 w p) : Calls Try.prog 25 #[.pointer p] w fun e w' => e = .returned (.int .i64 0) ∧ Chg [] w w' := by
  have H0 := Lib.hid (And.intro h (Chg.refl [] w))
  clear h
  go_enter Try.func25, Try.ntmps25
  go_wp2_with fail
  refine (nbof p w (H0.out.1.calm H0.out.2)).mono ?_
  rintro e w1 ⟨rfl, hC⟩
  have H1 := Lib.hid (And.intro trivial (H0.out.2.trans hC))
  clear hC
  go_wp2
  go_ret
  exact ⟨rfl, H1.out.2⟩

set_option maxRecDepth 100000 in
theorem nbcopy (p : Option Addr) (w : World) (h : PNo 70 w p) : Calls Try.prog 51 #[.pointer p] w fun e w' => e = .returned (.pointer none) ∧ Chg [] w w' := by
  have H0 := Lib.hid (And.intro h (Chg.refl [] w))
  clear h
  go_enter Try.func51, Try.ntmps51
  go_wp2_with fail
  refine (nbof p w (H0.out.1.calm H0.out.2)).mono ?_
  rintro e w1 ⟨rfl, hC⟩
  have H1 := Lib.hid (And.intro trivial (H0.out.2.trans hC))
  clear hC
  go_wp2
  go_ret
  exact ⟨rfl, H1.out.2⟩

set_option maxRecDepth 100000 in
theorem nbwait (p : Option Addr) (w : World) (h : PNo 70 w p) : Calls Try.prog 28 #[.pointer p, .int .i64 0, .int .i64 1] w fun e w' => e = .returned (.tuple #[.slice none 0 0, .int .i64 1]) ∧ Chg [] w w' := by
  have H0 := Lib.hid (And.intro h (Chg.refl [] w))
  clear h
  go_enter Try.func28, Try.ntmps28
  go_wp2_with fail
  refine (nbof p w (H0.out.1.calm H0.out.2)).mono ?_
  rintro e w1 ⟨rfl, hC⟩
  have H1 := Lib.hid (And.intro trivial (H0.out.2.trans hC))
  clear hC
  go_wp2_with fail
  refine (nask w1).mono ?_
  rintro e wq ⟨rfl, rfl⟩
  go_wp2
  go_ret2
  exact ⟨rfl, H1.out.2⟩

set_option maxRecDepth 100000 in
theorem nbsame (p : Option Addr) (w : World) (h : PNo 70 w p) : Calls Try.prog 32 #[.pointer p, .pointer none] w fun e w' => e = .returned (.bool true) ∧ Chg [] w w' := by
  have H := Lib.hid h
  clear h
  go_enter Try.func32, Try.ntmps32
  go_wp2_with fail
  refine (nbof p w H.out).mono ?_
  rintro e w1 ⟨rfl, hC⟩
  have HA := Lib.hid hC
  clear hC
  go_wp2_with fail
  refine (nbof none w1 (.inl rfl)).mono ?_
  rintro e w2 ⟨rfl, hC⟩
  have HB := Lib.hid (((HA.out.trans hC).alloc (.cells #[.pointer none, .int .i64 0] 70)).alloc (.cells #[.pointer none, .int .i64 0] 70))
  clear hC HA
  go_wp2_with fail
  refine (nil_same2 _).mono ?_
  rintro e w5 ⟨rfl, rfl⟩
  go_wp2
  go_ret
  exact ⟨rfl, HB.out⟩

set_option maxRecDepth 100000 in
theorem nbsame1 (cb ab mb : Nat) (N : Int) (L : WL) (V : Int) (w : World) (h : PAt 70 w cb ab mb N L V) (hV : V ≠ 0) : Calls Try.prog 32 #[.pointer (some ⟨cb, 0, none⟩), .pointer none] w fun e w' => e = .returned (.bool false) ∧ Chg [] w w' := by
  have H := Lib.hid h
  have hx : (V == 0) = false := by simpa using hV
  clear h hV
  go_enter Try.func32, Try.ntmps32
  go_wp2_with fail
  refine (bofc cb ab mb N L V w H.out).mono ?_
  rintro e w1 ⟨rfl, hC⟩
  have HA := Lib.hid hC
  clear hC
  go_wp2_with fail
  refine (nbof none w1 (.inl rfl)).mono ?_
  rintro e w2 ⟨rfl, hC⟩
  have HB := Lib.hid (((HA.out.trans hC).alloc (.cells #[.pointer (some ⟨ab, 0, none⟩), .int .i64 V] 70)).alloc (.cells #[.pointer none, .int .i64 0] 70))
  clear hC HA
  go_wp2
  go_ret
  exact ⟨rfl, HB.out⟩

set_option maxRecDepth 100000 in
set_option maxHeartbeats 2000000 in
theorem nothing14 (p q : Option Addr) (w : World) (h : PNo 68 w p) (g : PNo 70 w q) : Calls Try.prog 30 #[.pointer p, .pointer q] w fun e w' => e = .returned (.bool true) ∧ Chg [] w w' := by
  have H0 := Lib.hid (And.intro (And.intro h g) (Chg.refl [] w))
  clear h g
  go_enter Try.func30, Try.ntmps30
  go_wp2_with fail
  refine (nswait p w (H0.out.1.1.calm H0.out.2)).mono ?_
  rintro e w1 ⟨rfl, hC⟩
  have H1 := Lib.hid (And.intro trivial (H0.out.2.trans hC))
  clear hC
  go_wp2_with (first | fail | (go_at_call 9; go_in))
  refine (nspost p w1 (H0.out.1.1.calm H1.out.2)).mono ?_
  rintro e w2 ⟨rfl, hC⟩
  have H2 := Lib.hid (And.intro trivial (H1.out.2.trans hC))
  clear hC
  go_wp2_with (first | fail | (go_at_call 9; go_in))
  refine (nbwait q w2 (H0.out.1.2.calm H2.out.2)).mono ?_
  rintro e w3 ⟨rfl, hC⟩
  have H3 := Lib.hid (And.intro trivial (H2.out.2.trans hC))
  clear hC
  go_wp2_with (first | fail | (go_at_call 9; go_in))
  refine (nstry p w3 (H0.out.1.1.calm H3.out.2)).mono ?_
  rintro e w4 ⟨rfl, hC⟩
  have H4 := Lib.hid (And.intro trivial (H3.out.2.trans hC))
  clear hC
  go_wp2_with (first | fail | (go_at_call 9; go_in))
  refine (nsleave p w4 (H0.out.1.1.calm H4.out.2)).mono ?_
  rintro e w5 ⟨rfl, hC⟩
  have H5 := Lib.hid (And.intro trivial (H4.out.2.trans hC))
  clear hC
  go_wp2_with (first | fail | (go_at_call 9; go_in))
  refine (nschange p w5 (H0.out.1.1.calm H5.out.2)).mono ?_
  rintro e w6 ⟨rfl, hC⟩
  have H6 := Lib.hid (And.intro trivial (H5.out.2.trans hC))
  clear hC
  go_wp2_with (first | fail | (go_at_call 9; go_in))
  refine (nbleave q w6 (H0.out.1.2.calm H6.out.2)).mono ?_
  rintro e w7 ⟨rfl, hC⟩
  have H7 := Lib.hid (And.intro trivial (H6.out.2.trans hC))
  clear hC
  go_wp2_with (first | fail | (go_at_call 9; go_in))
  refine (nbchange q w7 (H0.out.1.2.calm H7.out.2)).mono ?_
  rintro e w8 ⟨rfl, hC⟩
  have H8 := Lib.hid (And.intro trivial (H7.out.2.trans hC))
  clear hC
  go_wp2_with (first | fail | (go_at_call 9; go_in))
  refine (nsvalue p w8 (H0.out.1.1.calm H8.out.2)).mono ?_
  rintro e w9 ⟨rfl, hC⟩
  have H9 := Lib.hid (And.intro trivial (H8.out.2.trans hC))
  clear hC
  go_wp2_with (first | fail | (go_at_call 9; go_in))
  refine (nslen p w9 (H0.out.1.1.calm H9.out.2)).mono ?_
  rintro e w10 ⟨rfl, hC⟩
  have H10 := Lib.hid (And.intro trivial (H9.out.2.trans hC))
  clear hC
  go_wp2_with (first | fail | (go_at_call 9; go_in))
  refine (nslist p w10 (H0.out.1.1.calm H10.out.2)).mono ?_
  rintro e w11 ⟨rfl, hC⟩
  have H11 := Lib.hid (And.intro trivial (H10.out.2.trans hC))
  clear hC
  go_wp2_with (first | fail | (go_at_call 9; go_in))
  refine (nbvalue q w11 (H0.out.1.2.calm H11.out.2)).mono ?_
  rintro e w12 ⟨rfl, hC⟩
  have H12 := Lib.hid (And.intro trivial (H11.out.2.trans hC))
  clear hC
  go_wp2_with (first | fail | (go_at_call 9; go_in))
  refine (nblen q w12 (H0.out.1.2.calm H12.out.2)).mono ?_
  rintro e w13 ⟨rfl, hC⟩
  have H13 := Lib.hid (And.intro trivial (H12.out.2.trans hC))
  clear hC
  go_wp2_with (first | fail | (go_at_call 9; go_in))
  refine (nblist q w13 (H0.out.1.2.calm H13.out.2)).mono ?_
  rintro e w14 ⟨rfl, hC⟩
  have H14 := Lib.hid (And.intro trivial (H13.out.2.trans hC))
  clear hC
  go_wp2_with (first | fail | (go_at_call 9; go_in))
  refine (nscopy p w14 (H0.out.1.1.calm H14.out.2)).mono ?_
  rintro e w15 ⟨rfl, hC⟩
  have H15 := Lib.hid (And.intro trivial (H14.out.2.trans hC))
  clear hC
  go_wp2_with (first | fail | (go_at_call 9; go_in))
  refine (nbcopy q w15 (H0.out.1.2.calm H15.out.2)).mono ?_
  rintro e w16 ⟨rfl, hC⟩
  have H16 := Lib.hid (And.intro trivial (H15.out.2.trans hC))
  clear hC
  go_wp2_with (first | fail | (go_at_call 9; go_in))
  refine (nssame p w16 (H0.out.1.1.calm H16.out.2)).mono ?_
  rintro e w17 ⟨rfl, hC⟩
  have H17 := Lib.hid (And.intro trivial (H16.out.2.trans hC))
  clear hC
  go_wp2_with (first | fail | (go_at_call 9; go_in))
  refine (nbsame q w17 (H0.out.1.2.calm H17.out.2)).mono ?_
  rintro e w18 ⟨rfl, hC⟩
  have H18 := Lib.hid (And.intro trivial (H17.out.2.trans hC))
  clear hC
  go_wp2_with (first | fail | (go_at_call 9; go_in))
  go_ret
  exact ⟨rfl, H18.out.2⟩

end Go.Proofs.Ytknngbnkcbcanaa
