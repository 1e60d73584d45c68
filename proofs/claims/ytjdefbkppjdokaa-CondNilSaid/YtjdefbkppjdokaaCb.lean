/- Package cond: New, Len, Mutex, Has, List, Leave, Change, Signal: contracts. -/
import Derived.Test.YtjdefbkppjdokaaCa
namespace Go.Proofs.Ytjdefbkppjdokaa
open Go.RowKit

def CNewP (w : World) (e : Ending) (w' : World) : Prop :=
  ∃ cb ab mb, e = .returned (.pointer (some ⟨cb, 0, none⟩)) ∧ w.heap.size ≤ cb ∧ w.heap.size ≤ ab ∧ w.heap.size ≤ mb ∧ CAt w' cb ab mb 0 [] 0 ∧ Chg [] w w'

set_option maxRecDepth 100000 in
theorem cnewc (w : World) : Calls Try.prog 8 #[] w (CNewP w) := by
  go_enter Try.func8, Try.ntmps8
  go_wp2_with fail
  refine (newc w).mono ?_
  rintro e w1 ⟨ab, mb, rfl, hab, hmb, hW, hC⟩
  have H := Lib.hid (And.intro hW (And.intro hC (And.intro hab hmb)))
  clear hW hC hab hmb
  go_wp2
  go_ret
  have hC2 : Chg [] w1 (w1.alloc (.cells #[.pointer (some ⟨ab, 0, none⟩), .int .i64 0] 53)) := (Chg.refl _ _).alloc _
  exact ⟨w1.heap.size, ab, mb, rfl, H.out.2.1.size, H.out.2.2.1, H.out.2.2.2, ⟨heap_alloc_eq w1 _, H.out.1.kept hC2 (by simp) (by simp)⟩, H.out.2.1.trans hC2⟩

/-- The number of those who wait, seen as a number. -/
def muM (L : WL) (M : Int) : Int := if L.length = 0 then 0 else M
def muB (L : WL) : Bool := !decide (L.length = 0)

set_option maxRecDepth 100000 in
theorem clenc (cb ab mb : Nat) (N : Int) (L : WL) (M : Int) (w : World) (h : CAt w cb ab mb N L M) :
    Calls Try.prog 13 #[.pointer (some ⟨cb, 0, none⟩)] w fun e w' => e = .returned (.int .i64 (L.length : Int)) ∧ Chg [] w w' := by
  have H := Lib.hid h
  clear h
  go_enter Try.func13, Try.ntmps13
  go_wp2_with fail
  refine (ofc cb ab mb N L M w H.out).mono ?_
  rintro e w1 ⟨rfl, hC⟩
  have HC := Lib.hid hC
  clear hC
  go_wp2_with fail
  refine (lenc ab mb N L w1 (H.out.calm HC.out).list).mono ?_
  rintro e w2 ⟨rfl, rfl⟩
  go_wp2
  go_ret
  exact ⟨rfl, HC.out⟩

set_option maxRecDepth 100000 in
theorem cmutexc (cb ab mb : Nat) (N : Int) (L : WL) (M : Int) (w : World) (h : CAt w cb ab mb N L M) :
    Calls Try.prog 10 #[.pointer (some ⟨cb, 0, none⟩)] w fun e w' => e = .returned (.tuple #[.int .i64 (muM L M), .bool (muB L)]) ∧ Chg [] w w' := by
  have hl := clenc cb ab mb N L M w h
  have hh := h.head
  clear h
  unfold muM muB
  by_cases hL : L.length = 0
  · rw [hL] at hl ⊢
    have HL := Lib.hid hl
    clear hl hL hh
    go_enter Try.func10, Try.ntmps10
    go_wp2_with fail
    refine HL.out.mono ?_
    rintro e w1 ⟨rfl, hC⟩
    go_wp2
    go_ret2
    exact ⟨rfl, hC⟩
  · have e1 : ((L.length : Int) == 0) = false := by rw [beq_eq_false_iff_ne]; omega
    rw [if_neg hL, show (!decide (L.length = 0)) = true by simpa using hL]
    generalize L.length = n at *
    have HL := Lib.hid hl
    clear hl hL
    go_enter Try.func10, Try.ntmps10
    go_wp2_with fail
    refine HL.out.mono ?_
    rintro e w1 ⟨rfl, hC⟩
    have c1 := cellB (hC.blk hh (by simp)) (i := 1) rfl
    clear hh
    go_wp2
    go_ret2
    exact ⟨rfl, hC⟩

set_option maxRecDepth 100000 in
theorem chasc (cb ab mb : Nat) (N : Int) (L : WL) (M : Int) (t : Int) (w : World) (h : CAt w cb ab mb N L M) :
    Calls Try.prog 45 #[.pointer (some ⟨cb, 0, none⟩), .int .i64 t] w fun e w' => e = .returned (.bool (hasR L t)) ∧ Chg [] w w' := by
  have H := Lib.hid h
  clear h
  go_enter Try.func45, Try.ntmps45
  go_wp2_with fail
  refine (ofc cb ab mb N L M w H.out).mono ?_
  rintro e w1 ⟨rfl, hC⟩
  have HC := Lib.hid hC
  clear hC
  go_wp2_with fail
  refine (hasc ab mb N L t w1 (H.out.calm HC.out).list).mono ?_
  rintro e w2 ⟨rfl, hC2⟩
  go_wp2
  go_ret
  exact ⟨rfl, HC.out.trans hC2⟩

set_option maxRecDepth 100000 in
theorem clistc (cb ab mb : Nat) (N : Int) (L : WL) (M : Int) (w : World) (h : CAt w cb ab mb N L M) :
    Calls Try.prog 9 #[.pointer (some ⟨cb, 0, none⟩)] w (IntsPost (ordT L) w) := by
  have H := Lib.hid h
  clear h
  go_enter Try.func9, Try.ntmps9
  go_wp2_with fail
  refine (ofc cb ab mb N L M w H.out).mono ?_
  rintro e w1 ⟨rfl, hC⟩
  have HC := Lib.hid hC
  clear hC
  go_wp2_with fail
  refine (listc ab mb N L w1 (H.out.calm HC.out).list).mono ?_
  rintro e w2 ⟨v, rfl, ho, hC2⟩
  have HO := Lib.hid (own_mono ho HC.out.size)
  clear ho
  go_wp2
  go_ret
  exact ⟨v, rfl, HO.out, HC.out.trans hC2⟩

set_option maxRecDepth 100000 in
theorem cleavec (cb ab mb : Nat) (N : Int) (L : WL) (M : Int) (t : Int) (w : World) (h : CAt w cb ab mb N L M) :
    Calls Try.prog 17 #[.pointer (some ⟨cb, 0, none⟩), .int .i64 t] w fun e w' => e = .returned (.int .i64 (askR L t 1 true)) ∧ CAt w' cb ab mb N (lvL L t) M ∧ Chg [ab, mb] w w' := by
  have H := Lib.hid h
  clear h
  go_enter Try.func17, Try.ntmps17
  go_wp2_with fail
  refine (ofc cb ab mb N L M w H.out).mono ?_
  rintro e w1 ⟨rfl, hC⟩
  have HC := Lib.hid hC
  clear hC
  go_wp2_with fail
  refine (leavec ab mb N L t w1 (H.out.calm HC.out).list).mono ?_
  rintro e w2 ⟨rfl, hW, hC2⟩
  have H2 := Lib.hid (And.intro hW hC2)
  clear hW hC2
  go_wp2
  go_ret
  exact ⟨rfl, (H.out.calm HC.out).step H2.out.1 H2.out.2, (HC.out.mono (by simp)).trans H2.out.2⟩

set_option maxRecDepth 100000 in
theorem cchangec (cb ab mb : Nat) (N : Int) (L : WL) (M : Int) (t p : Int) (w : World) (h : CAt w cb ab mb N L M) :
    Calls Try.prog 18 #[.pointer (some ⟨cb, 0, none⟩), .int .i64 t, .int .i64 p] w fun e w' => e = .returned (.int .i64 (askR L t p true)) ∧ CAt w' cb ab mb N (chgL L t p) M ∧ Chg [ab, mb] w w' := by
  have H := Lib.hid h
  clear h
  go_enter Try.func18, Try.ntmps18
  go_wp2_with fail
  refine (ofc cb ab mb N L M w H.out).mono ?_
  rintro e w1 ⟨rfl, hC⟩
  have HC := Lib.hid hC
  clear hC
  go_wp2_with fail
  refine (changec ab mb N L t p w1 (H.out.calm HC.out).list).mono ?_
  rintro e w2 ⟨rfl, hW, hC2⟩
  have H2 := Lib.hid (And.intro hW hC2)
  clear hW hC2
  go_wp2
  go_ret
  exact ⟨rfl, (H.out.calm HC.out).step H2.out.1 H2.out.2, (HC.out.mono (by simp)).trans H2.out.2⟩

set_option maxRecDepth 100000 in
theorem ctakenc (cb ab mb : Nat) (N : Int) (L : WL) (M : Int) (w : World) (h : CAt w cb ab mb N L M) :
    Calls Try.prog 31 #[.pointer (some ⟨cb, 0, none⟩), .func (.func 32) #[] #[]] w fun e w' => e = .returned (.tuple #[.int .i64 (headT (ordL L)), .bool (headB (ordL L))]) ∧ CAt w' cb ab mb N (takeL L) M ∧ Chg [ab, mb] w w' := by
  have H := Lib.hid h
  clear h
  go_enter Try.func31, Try.ntmps31
  go_wp2_with fail
  refine (ofc cb ab mb N L M w H.out).mono ?_
  rintro e w1 ⟨rfl, hC⟩
  have HC := Lib.hid hC
  clear hC
  go_wp2_with fail
  refine (takec ab mb N L w1 (H.out.calm HC.out).list).mono ?_
  rintro e w2 ⟨rfl, hW, hC2⟩
  have H2 := Lib.hid (And.intro hW hC2)
  clear hW hC2
  go_wp2
  go_ret2
  exact ⟨rfl, (H.out.calm HC.out).step H2.out.1 H2.out.2, (HC.out.mono (by simp)).trans H2.out.2⟩

set_option maxRecDepth 100000 in
theorem csignalc (cb ab mb : Nat) (N : Int) (L : WL) (M : Int) (w : World) (h : CAt w cb ab mb N L M) :
    Calls Try.prog 15 #[.pointer (some ⟨cb, 0, none⟩)] w fun e w' => e = .returned (.tuple #[.int .i64 (headT (ordL L)), .bool (headB (ordL L))]) ∧ CAt w' cb ab mb N (takeL L) M ∧ Chg [ab, mb] w w' := by
  have H := Lib.hid h
  clear h
  go_enter Try.func15, Try.ntmps15
  go_wp2_with fail
  refine (ctakenc cb ab mb N L M w H.out).mono ?_
  rintro e w1 ⟨rfl, hW, hC⟩
  have H2 := Lib.hid (And.intro hW hC)
  clear hW hC
  go_wp2
  go_ret2
  exact ⟨rfl, H2.out.1, H2.out.2⟩

end Go.Proofs.Ytjdefbkppjdokaa
