
/- Package rwlock: locks that are not there (written by wip/nil15.py). -/
import Derived.Test.YtpdfeinbbjfcaaaKknown
namespace Go.Proofs.Ytpdfeinbbjfcaaa
open Go.RowKit

/-- No lock, or a zero one. -/
def LNo (w : World) (p : Option Addr) : Prop := p = none ∨ ∃ cb, p = some ⟨cb, 0, none⟩ ∧ w.heap[cb]? = some (.cells #[.int .i64 0, .map none, .pointer none, .pointer none] 49 (0, 0))
theorem LNo.calm {w w' : World} {p : Option Addr} (h : LNo w p) (hC : Chg [] w w') : LNo w' p := by
  rcases h with h | ⟨cb, h1, h2⟩
  · exact .inl h
  · exact .inr ⟨cb, h1, hC.blk h2 (by simp)⟩

set_option maxRecDepth 100000 in
theorem nthere (p : Option Addr) (w : World) (h : LNo w p) : Calls Try.prog 24 #[.pointer p] w fun e w' => e = .returned (.bool false) ∧ w = w' := by
  rcases h with rfl | ⟨cb, rfl, hb⟩
  · go_enter Try.func24, Try.ntmps24
    go_wp2
    go_ret
    exact ⟨rfl, rfl⟩
  · have c1 := cellB hb (i := 1) (v := .map none) rfl
    clear hb
    go_enter Try.func24, Try.ntmps24
    go_wp2
    go_ret
    exact ⟨rfl, rfl⟩

set_option maxRecDepth 100000 in
theorem nask (p : Option Addr) (t q : Int) (f : Value) (w : World) (h : LNo w p) : Calls Try.prog 30 #[.pointer p, .int .i64 t, .int .i64 q, f] w fun e w' => e = .returned (.int .i64 1) ∧ w = w' := by
  have HN := Lib.hid h
  clear h
  go_enter Try.func30, Try.ntmps30
  go_wp2_with (go_at_call 24; refine (nthere p _ HN.out).mono ?_; rintro e w' ⟨rfl, rfl⟩)
  go_ret
  exact ⟨rfl, rfl⟩

set_option maxRecDepth 100000 in
theorem nwant (p : Option Addr) (k t q : Int) (b : Bool) (w : World) (h : LNo w p) : Calls Try.prog 26 #[.pointer p, .int .i64 k, .int .i64 t, .int .i64 q, .bool b] w fun e w' => e = .returned (.tuple #[.bool false, .int .i64 1]) ∧ Chg [] w w' := by
  have hb := boxes3 w (.pointer p) (.int .i64 k) (.int .i64 t) 24 3 3
  have HN := Lib.hid (And.intro (h.calm hb.2.2.2) hb.2.2.2)
  clear h hb
  go_enter Try.func26, Try.ntmps26
  go_wp2_with fail
  refine (nask p _ _ _ _ HN.out.1).mono ?_
  rintro e w1 ⟨rfl, rfl⟩
  go_wp2
  go_ret2
  exact ⟨rfl, HN.out.2⟩

set_option maxRecDepth 100000 in
theorem nread (p : Option Addr) (t q : Int) (w : World) (h : LNo w p) : Calls Try.prog 8 #[.pointer p, .int .i64 t, .int .i64 q] w fun e w' => e = .returned (.tuple #[.bool false, .int .i64 1]) ∧ Chg [] w w' := by
  have HN := Lib.hid (nwant p 0 t q true w h)
  clear h
  go_enter Try.func8, Try.ntmps8
  go_wp2_with fail
  refine HN.out.mono ?_
  rintro e w1 ⟨rfl, hC⟩
  go_wp2
  go_ret2
  exact ⟨rfl, hC⟩

set_option maxRecDepth 100000 in
theorem nwrite (p : Option Addr) (t q : Int) (w : World) (h : LNo w p) : Calls Try.prog 9 #[.pointer p, .int .i64 t, .int .i64 q] w fun e w' => e = .returned (.tuple #[.bool false, .int .i64 1]) ∧ Chg [] w w' := by
  have HN := Lib.hid (nwant p 1 t q true w h)
  clear h
  go_enter Try.func9, Try.ntmps9
  go_wp2_with fail
  refine HN.out.mono ?_
  rintro e w1 ⟨rfl, hC⟩
  go_wp2
  go_ret2
  exact ⟨rfl, hC⟩

set_option maxRecDepth 100000 in
theorem ntryread (p : Option Addr) (t q : Int) (w : World) (h : LNo w p) : Calls Try.prog 12 #[.pointer p, .int .i64 t, .int .i64 q] w fun e w' => e = .returned (.tuple #[.bool false, .int .i64 1]) ∧ Chg [] w w' := by
  have HN := Lib.hid (nwant p 0 t q false w h)
  clear h
  go_enter Try.func12, Try.ntmps12
  go_wp2_with fail
  refine HN.out.mono ?_
  rintro e w1 ⟨rfl, hC⟩
  go_wp2
  go_ret2
  exact ⟨rfl, hC⟩

set_option maxRecDepth 100000 in
theorem ntrywrite (p : Option Addr) (t q : Int) (w : World) (h : LNo w p) : Calls Try.prog 13 #[.pointer p, .int .i64 t, .int .i64 q] w fun e w' => e = .returned (.tuple #[.bool false, .int .i64 1]) ∧ Chg [] w w' := by
  have HN := Lib.hid (nwant p 1 t q false w h)
  clear h
  go_enter Try.func13, Try.ntmps13
  go_wp2_with fail
  refine HN.out.mono ?_
  rintro e w1 ⟨rfl, hC⟩
  go_wp2
  go_ret2
  exact ⟨rfl, hC⟩

set_option maxRecDepth 100000 in
theorem nunlock (p : Option Addr) (t : Int) (w : World) (h : LNo w p) : Calls Try.prog 14 #[.pointer p, .int .i64 t] w fun e w' => e = .returned (.tuple #[.slice none 0 0, .int .i64 1]) ∧ Chg [] w w' := by
  have hb := boxes2 w (.pointer p) (.int .i64 t) 24 3
  have HN := Lib.hid (And.intro (h.calm hb.2.2) hb.2.2)
  clear h hb
  go_enter Try.func14, Try.ntmps14
  go_wp2_with fail
  refine (nask p _ _ _ _ HN.out.1).mono ?_
  rintro e w1 ⟨rfl, rfl⟩
  go_wp2
  go_ret2
  exact ⟨rfl, HN.out.2⟩

set_option maxRecDepth 100000 in
theorem nchange0 (p : Option Addr) (t q : Int) (f : Value) (w : World) (h : LNo w p) : Calls Try.prog 27 #[.pointer p, .int .i64 t, .int .i64 q, f] w fun e w' => e = .returned (.tuple #[.slice none 0 0, .int .i64 1]) ∧ Chg [] w w' := by
  have hb := boxes2 w (.pointer p) (.int .i64 t) 24 3
  have HN := Lib.hid (And.intro (h.calm hb.2.2) hb.2.2)
  clear h hb
  go_enter Try.func27, Try.ntmps27
  go_wp2_with fail
  refine (nask p _ _ _ _ HN.out.1).mono ?_
  rintro e w1 ⟨rfl, rfl⟩
  go_wp2
  go_ret2
  exact ⟨rfl, HN.out.2⟩

set_option maxRecDepth 100000 in
theorem nleave (p : Option Addr) (t : Int) (w : World) (h : LNo w p) : Calls Try.prog 15 #[.pointer p, .int .i64 t] w fun e w' => e = .returned (.tuple #[.slice none 0 0, .int .i64 1]) ∧ Chg [] w w' := by
  have hA : Chg [] w (w.alloc (.cells #[.int .i64 t] 3)) := (Chg.refl _ _).alloc _
  have HN := Lib.hid (And.intro (h.calm hA) hA)
  clear h hA
  go_enter Try.func15, Try.ntmps15
  go_wp2_with fail
  refine (nchange0 p _ _ _ _ HN.out.1).mono ?_
  rintro e w1 ⟨rfl, hC⟩
  go_wp2
  go_ret2
  exact ⟨rfl, HN.out.2.trans hC⟩

set_option maxRecDepth 100000 in
theorem nchange (p : Option Addr) (t q : Int) (w : World) (h : LNo w p) : Calls Try.prog 10 #[.pointer p, .int .i64 t, .int .i64 q] w fun e w' => e = .returned (.tuple #[.slice none 0 0, .int .i64 1]) ∧ Chg [] w w' := by
  have hb := boxes2 w (.int .i64 t) (.int .i64 q) 3 3
  have HN := Lib.hid (And.intro (h.calm hb.2.2) hb.2.2)
  clear h hb
  go_enter Try.func10, Try.ntmps10
  go_wp2_with fail
  refine (nchange0 p _ _ _ _ HN.out.1).mono ?_
  rintro e w1 ⟨rfl, hC⟩
  go_wp2
  go_ret2
  exact ⟨rfl, HN.out.2.trans hC⟩

set_option maxRecDepth 100000 in
theorem nwriter (p : Option Addr) (w : World) (h : LNo w p) : Calls Try.prog 17 #[.pointer p] w fun e w' => e = .returned (.tuple #[.int .i64 0, .bool false]) ∧ w = w' := by
  have HN := Lib.hid h
  clear h
  go_enter Try.func17, Try.ntmps17
  go_wp2_with (go_at_call 24; refine (nthere p _ HN.out).mono ?_; rintro e w' ⟨rfl, rfl⟩)
  go_ret2
  exact ⟨rfl, rfl⟩

set_option maxRecDepth 100000 in
theorem nreads (p : Option Addr) (w : World) (h : LNo w p) : Calls Try.prog 22 #[.pointer p, .int .i64 0] w fun e w' => e = .returned (.int .i64 0) ∧ w = w' := by
  have HN := Lib.hid h
  clear h
  go_enter Try.func22, Try.ntmps22
  go_wp2_with (go_at_call 24; refine (nthere p _ HN.out).mono ?_; rintro e w' ⟨rfl, rfl⟩)
  go_ret
  exact ⟨rfl, rfl⟩

set_option maxRecDepth 100000 in
theorem nheld (p : Option Addr) (w : World) (h : LNo w p) : Calls Try.prog 35 #[.pointer p] w fun e w' => e = .returned (.bool false) ∧ w = w' := by
  have HN := Lib.hid h
  clear h
  go_enter Try.func35, Try.ntmps35
  go_wp2_with (go_at_call 24; refine (nthere p _ HN.out).mono ?_; rintro e w' ⟨rfl, rfl⟩)
  go_ret
  exact ⟨rfl, rfl⟩

set_option maxRecDepth 100000 in
theorem nwaiting (p : Option Addr) (w : World) (h : LNo w p) : Calls Try.prog 36 #[.pointer p, .int .i64 0] w fun e w' => e = .returned (.tuple #[.bool false, .bool false]) ∧ w = w' := by
  have HN := Lib.hid h
  clear h
  go_enter Try.func36, Try.ntmps36
  go_wp2_with (go_at_call 24; refine (nthere p _ HN.out).mono ?_; rintro e w' ⟨rfl, rfl⟩)
  go_ret2
  exact ⟨rfl, rfl⟩

set_option maxRecDepth 100000 in
theorem nreaders (p : Option Addr) (w : World) (h : LNo w p) : Calls Try.prog 21 #[.pointer p] w fun e w' => e = .returned (.slice none 0 0) ∧ w = w' := by
  have HN := Lib.hid h
  clear h
  go_enter Try.func21, Try.ntmps21
  go_wp2_with (go_at_call 24; refine (nthere p _ HN.out).mono ?_; rintro e w' ⟨rfl, rfl⟩)
  go_ret
  exact ⟨rfl, rfl⟩

set_option maxRecDepth 100000 in
theorem nwriters (p : Option Addr) (w : World) (h : LNo w p) : Calls Try.prog 7 #[.pointer p] w fun e w' => e = .returned (.slice none 0 0) ∧ w = w' := by
  have HN := Lib.hid h
  clear h
  go_enter Try.func7, Try.ntmps7
  go_wp2_with (go_at_call 24; refine (nthere p _ HN.out).mono ?_; rintro e w' ⟨rfl, rfl⟩)
  go_ret
  exact ⟨rfl, rfl⟩

set_option maxRecDepth 100000 in
theorem ncopy (p : Option Addr) (w : World) (h : LNo w p) : Calls Try.prog 37 #[.pointer p] w fun e w' => e = .returned (.pointer none) ∧ w = w' := by
  have HN := Lib.hid h
  clear h
  go_enter Try.func37, Try.ntmps37
  go_wp2_with (go_at_call 24; refine (nthere p _ HN.out).mono ?_; rintro e w' ⟨rfl, rfl⟩)
  go_ret
  exact ⟨rfl, rfl⟩

set_option maxRecDepth 100000 in
theorem nsame00 (p q : Option Addr) (w : World) (h : LNo w p) (g : LNo w q) : Calls Try.prog 20 #[.pointer p, .pointer q] w fun e w' => e = .returned (.bool true) ∧ w = w' := by
  have hT : ∀ r : Option Addr, r = p ∨ r = q → Calls Try.prog 24 #[.pointer r] w fun e w' => e = .returned (.bool false) ∧ w = w' := by
    rintro r (rfl | rfl)
    · exact nthere _ w h
    · exact nthere _ w g
  have HT := Lib.hid hT
  clear h g hT
  go_enter Try.func20, Try.ntmps20
  go_wp2_with (go_at_call 24; refine (HT.out _ (by first | exact .inl rfl | exact .inr rfl)).mono ?_; rintro e w' ⟨rfl, rfl⟩)
  go_ret
  exact ⟨rfl, rfl⟩

set_option maxRecDepth 100000 in
theorem nsame10 (cb rb a0 m0 a1 m1 : Nat) (N : Int) (s : LS) (w : World) (h : LAt w cb rb a0 m0 a1 m1 N s) : Calls Try.prog 20 #[.pointer (some ⟨cb, 0, none⟩), .pointer none] w fun e w' => e = .returned (.bool false) ∧ w = w' := by
  have HT := Lib.hid (ltherec cb rb a0 m0 a1 m1 N s w h)
  have HN := Lib.hid (nthere none w (.inl rfl))
  clear h
  go_enter Try.func20, Try.ntmps20
  go_wp2_with fail
  refine HT.out.mono ?_
  rintro e w1 ⟨rfl, rfl⟩
  go_wp2_with fail
  refine HN.out.mono ?_
  rintro e w1 ⟨rfl, rfl⟩
  go_wp2_with fail
  refine HT.out.mono ?_
  rintro e w1 ⟨rfl, rfl⟩
  go_wp2_with fail
  refine HN.out.mono ?_
  rintro e w1 ⟨rfl, rfl⟩
  go_wp2
  go_ret
  exact ⟨rfl, rfl⟩

theorem eql_pLock_none (w : World) : (binOp .eql 24 (.pointer none) (.pointer none)).run Try.prog w = .ok (.bool true) w := by
  simp [go_sem]

set_option maxRecDepth 100000 in
set_option maxHeartbeats 4000000 in
theorem nothing15 (p : Option Addr) (w : World) (h : LNo w p) : Calls Try.prog 19 #[.pointer p] w fun e w' => e = .returned (.bool true) ∧ Chg [] w w' := by
  have H0 := Lib.hid (And.intro h (Chg.refl [] w))
  clear h
  obtain ⟨w0, hw0⟩ : ∃ w0, w0 = w := ⟨_, rfl⟩
  rw [← hw0]
  rw [← hw0] at H0
  clear hw0
  have HW := Lib.hid H0.out.2
  go_enter Try.func19, Try.ntmps19
  go_wp2_with (first | fail | (go_at_call 11; go_in))
  refine (nread p 0 1 w0 H0.out.1).mono ?_
  rintro e w1 ⟨rfl, hC⟩
  have H1 := Lib.hid (And.intro (H0.out.1.calm hC) (H0.out.2.trans hC))
  clear hC
  go_wp2_with (first | fail | (go_at_call 11; go_in))
  refine (nwrite p 0 1 w1 H1.out.1).mono ?_
  rintro e w2 ⟨rfl, hC⟩
  have H2 := Lib.hid (And.intro (H1.out.1.calm hC) (H1.out.2.trans hC))
  clear hC
  go_wp2_with (first | fail | (go_at_call 11; go_in))
  refine (ntryread p 0 1 w2 H2.out.1).mono ?_
  rintro e w3 ⟨rfl, hC⟩
  have H3 := Lib.hid (And.intro (H2.out.1.calm hC) (H2.out.2.trans hC))
  clear hC
  go_wp2_with (first | fail | (go_at_call 11; go_in))
  refine (ntrywrite p 0 1 w3 H3.out.1).mono ?_
  rintro e w4 ⟨rfl, hC⟩
  have H4 := Lib.hid (And.intro (H3.out.1.calm hC) (H3.out.2.trans hC))
  clear hC
  go_wp2_with (first | fail | (go_at_call 11; go_in))
  refine (nunlock p 0 w4 H4.out.1).mono ?_
  rintro e w5 ⟨rfl, hC⟩
  have H5 := Lib.hid (And.intro (H4.out.1.calm hC) (H4.out.2.trans hC))
  clear hC
  go_wp2_with (first | fail | (go_at_call 11; go_in))
  refine (nleave p 0 w5 H5.out.1).mono ?_
  rintro e w6 ⟨rfl, hC⟩
  have H6 := Lib.hid (And.intro (H5.out.1.calm hC) (H5.out.2.trans hC))
  clear hC
  go_wp2_with (first | fail | (go_at_call 11; go_in))
  refine (nchange p 0 1 w6 H6.out.1).mono ?_
  rintro e w7 ⟨rfl, hC⟩
  have H7 := Lib.hid (And.intro (H6.out.1.calm hC) (H6.out.2.trans hC))
  clear hC
  go_wp2_with (first | fail | (go_at_call 11; go_in))
  refine (nwriter p w7 H7.out.1).mono ?_
  rintro e wq ⟨rfl, rfl⟩
  go_wp2_with (first | fail | (go_at_call 11; go_in))
  refine (nwaiting p w7 H7.out.1).mono ?_
  rintro e wq ⟨rfl, rfl⟩
  go_wp2_with (first | fail | (go_at_call 11; go_in))
  refine (nreads p w7 H7.out.1).mono ?_
  rintro e wq ⟨rfl, rfl⟩
  go_wp2_with (first | fail | (go_at_call 11; go_in))
  refine (nheld p w7 H7.out.1).mono ?_
  rintro e wq ⟨rfl, rfl⟩
  go_wp2_with (first | fail | (go_at_call 11; go_in))
  refine (nreaders p w7 H7.out.1).mono ?_
  rintro e wq ⟨rfl, rfl⟩
  go_wp2_with (first | fail | (go_at_call 11; go_in))
  refine (nwriters p w7 H7.out.1).mono ?_
  rintro e wq ⟨rfl, rfl⟩
  go_wp2_with (first | fail | (go_at_call 11; go_in))
  refine (ncopy p w7 H7.out.1).mono ?_
  rintro e wq ⟨rfl, rfl⟩
  go_wp2_with (first | fail | (go_at_call 11; go_in))
  refine (nsame00 p none w7 H7.out.1 (.inl rfl)).mono ?_
  rintro e wq ⟨rfl, rfl⟩
  go_wp2
  go_ret
  exact ⟨rfl, H7.out.2⟩

end Go.Proofs.Ytpdfeinbbjfcaaa
