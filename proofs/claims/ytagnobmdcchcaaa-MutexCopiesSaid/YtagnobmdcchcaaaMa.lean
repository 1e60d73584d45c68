
/- Package mutex: a mutex as it lies in memory; is, thread, priority, take, again, At, Protocol, Waiting: contracts. -/
import Derived.Test.YtagnobmdcchcaaaWo
import Derived.Test.YtagnobmdcchcaaaMspec
import Derived.Deep.RegionHeld3
import Derived.OwnWalk
import Derived.StillTailTactics
namespace Go.Proofs.Ytagnobmdcchcaaa
open Go.RowKit

theorem blk_ne {w : World} {a b : Nat} {cs ds : Array Value} {T U : TypeId} {fr gr : Nat × Nat} (ha : w.heap[a]? = some (.cells cs T fr)) (hb : w.heap[b]? = some (.cells ds U gr)) (h : T ≠ U) : a ≠ b := by
  rintro rfl
  rw [ha] at hb
  injection hb with hb
  injection hb with _ h2 _
  exact h h2
theorem WAt.ne_of {w : World} {k ab mb : Nat} {N : Int} {L : WL} {cs : Array Value} {T : TypeId} {fr : Nat × Nat} (h : WAt w ab mb N L) (hk : w.heap[k]? = some (.cells cs T fr)) (hT : T ≠ 90) : ab ≠ k ∧ mb ≠ k := by
  obtain ⟨n, L1, h, rfl, hn⟩ := h
  exact ⟨fun e => blk_ne hk h.head hT e.symm, h.map.ne hk⟩

/-- The cells of a mutex. -/
def mcells (ab : Nat) (s : MS) : Array Value := #[.int .i64 s.k, .int .i64 s.p, .int .i64 s.c, .bool s.rob, .int .i64 s.own, .int .i64 s.cnt, .int .i64 s.st, .pointer (some ⟨ab, 0, none⟩)]

/-- A mutex at block cb: its waiting list is at blocks ab, mb. -/
structure MAt (w : World) (cb ab mb : Nat) (N : Int) (s : MS) : Prop where
  head : w.heap[cb]? = some (.cells (mcells ab s) 71 (0, 0))
  list : WAt w ab mb N s.L

theorem MAt.kept {S : List Nat} {w w' : World} {cb ab mb : Nat} {N : Int} {s : MS} (h : MAt w cb ab mb N s) (hC : Chg S w w') (hc : cb ∉ S) (ha : ab ∉ S) (hm : mb ∉ S) : MAt w' cb ab mb N s :=
  ⟨hC.blk h.head hc, h.list.kept hC ha hm⟩
theorem MAt.calm {w w' : World} {cb ab mb : Nat} {N : Int} {s : MS} (h : MAt w cb ab mb N s) (hC : Chg [] w w') : MAt w' cb ab mb N s := h.kept hC (by simp) (by simp) (by simp)
theorem MAt.ne {w : World} {cb ab mb : Nat} {N : Int} {s : MS} (h : MAt w cb ab mb N s) : ab ≠ cb ∧ mb ≠ cb := h.list.ne_of h.head (by decide)
theorem MAt.mono {w : World} {cb ab mb : Nat} {N N' : Int} {s : MS} (h : MAt w cb ab mb N s) (hN : N ≤ N') : MAt w cb ab mb N' s := ⟨h.head, h.list.mono hN⟩
theorem MAt.lt {w : World} {cb ab mb : Nat} {N : Int} {s : MS} (h : MAt w cb ab mb N s) : cb < w.heap.size ∧ ab < w.heap.size ∧ mb < w.heap.size := ⟨lt_of_blk h.head, h.list.lt.1, h.list.lt.2.1⟩
/-- A step of the list within a mutex. -/
theorem MAt.step {w w' : World} {cb ab mb : Nat} {N N' : Int} {s : MS} {L' : WL} (h : MAt w cb ab mb N s) (hW : WAt w' ab mb N' L') (hC : Chg [ab, mb] w w') : MAt w' cb ab mb N' { s with L := L' } :=
  ⟨hC.blk h.head (by have := h.ne; simp; omega), hW⟩
theorem MAt.put {w : World} {cb ab mb : Nat} {N : Int} {s : MS} (h : MAt w cb ab mb N s) (i : Nat) (v : Value) (s' : MS) (hs : (mcells ab s).setIfInBounds i v = mcells ab s') (hL : s'.L = s.L) : MAt (w.setCell ⟨cb, i, none⟩ v) cb ab mb N s' ∧ Chg [cb] w (w.setCell ⟨cb, i, none⟩ v) :=
  have hC : Chg [cb] w (w.setCell ⟨cb, i, none⟩ v) := (Chg.refl _ _).setCell _ _ (by simp)
  ⟨⟨by rw [← hs]; exact blk_setCell h.head _, by rw [hL]; exact h.list.kept hC (by have := h.ne; simp; omega) (by have := h.ne; simp; omega)⟩, hC⟩
theorem MAt.putOwn {w : World} {cb ab mb : Nat} {N : Int} {s : MS} (h : MAt w cb ab mb N s) (x : Int) : MAt (w.setCell ⟨cb, 4, none⟩ (.int .i64 x)) cb ab mb N { s with own := x } ∧ Chg [cb] w (w.setCell ⟨cb, 4, none⟩ (.int .i64 x)) := h.put 4 _ _ rfl rfl
theorem MAt.putCnt {w : World} {cb ab mb : Nat} {N : Int} {s : MS} (h : MAt w cb ab mb N s) (x : Int) : MAt (w.setCell ⟨cb, 5, none⟩ (.int .i64 x)) cb ab mb N { s with cnt := x } ∧ Chg [cb] w (w.setCell ⟨cb, 5, none⟩ (.int .i64 x)) := h.put 5 _ _ rfl rfl
theorem MAt.putSt {w : World} {cb ab mb : Nat} {N : Int} {s : MS} (h : MAt w cb ab mb N s) (x : Int) : MAt (w.setCell ⟨cb, 6, none⟩ (.int .i64 x)) cb ab mb N { s with st := x } ∧ Chg [cb] w (w.setCell ⟨cb, 6, none⟩ (.int .i64 x)) := h.put 6 _ _ rfl rfl
theorem MAt.putC {w : World} {cb ab mb : Nat} {N : Int} {s : MS} (h : MAt w cb ab mb N s) (x : Int) : MAt (w.setCell ⟨cb, 2, none⟩ (.int .i64 x)) cb ab mb N { s with c := x } ∧ Chg [cb] w (w.setCell ⟨cb, 2, none⟩ (.int .i64 x)) := h.put 2 _ _ rfl rfl


set_option maxRecDepth 100000 in
theorem misc (cb ab mb : Nat) (N : Int) (s : MS) (w : World) (h : MAt w cb ab mb N s) :
    Calls Try.prog 36 #[.pointer (some ⟨cb, 0, none⟩)] w fun e w' => e = .returned (.bool true) ∧ w = w' := by
  have c7 := cellB h.head (i := 7) (v := .pointer (some ⟨ab, 0, none⟩)) rfl
  clear h
  go_enter Try.func36, Try.ntmps36
  go_wp2
  go_ret
  exact ⟨rfl, rfl⟩

set_option maxRecDepth 100000 in
theorem mthreadc (t : Int) (w : World) : Calls Try.prog 37 #[.int .i64 t] w fun e w' => e = .returned (.bool (thB t)) ∧ w = w' := by
  unfold thB
  by_cases h1 : 0 ≤ t
  · have d1 : decide (0 ≤ t) = true := by simpa using h1
    rw [d1, Bool.true_and]
    obtain ⟨r, hr⟩ : ∃ r, r = decide (t < 16) := ⟨_, rfl⟩
    rw [← hr]
    have hr' := hr.symm
    clear h1 hr
    go_enter Try.func37, Try.ntmps37
    go_wp2
    go_ret
    exact ⟨rfl, rfl⟩
  · have d1 : decide (0 ≤ t) = false := by simpa using h1
    rw [d1, Bool.false_and]
    go_enter Try.func37, Try.ntmps37
    go_wp2
    go_ret
    exact ⟨rfl, rfl⟩

set_option maxRecDepth 100000 in
theorem mprioc (t : Int) (w : World) : Calls Try.prog 32 #[.int .i64 t] w fun e w' => e = .returned (.bool (prB t)) ∧ w = w' := by
  unfold prB
  by_cases h1 : 1 ≤ t
  · have d1 : decide (1 ≤ t) = true := by simpa using h1
    rw [d1, Bool.true_and]
    obtain ⟨r, hr⟩ : ∃ r, r = decide (t ≤ 31) := ⟨_, rfl⟩
    rw [← hr]
    have hr' := hr.symm
    clear h1 hr
    go_enter Try.func32, Try.ntmps32
    go_wp2
    go_ret
    exact ⟨rfl, rfl⟩
  · have d1 : decide (1 ≤ t) = false := by simpa using h1
    rw [d1, Bool.false_and]
    go_enter Try.func32, Try.ntmps32
    go_wp2
    go_ret
    exact ⟨rfl, rfl⟩

set_option maxRecDepth 100000 in
theorem mtakec (cb ab mb : Nat) (N : Int) (s : MS) (t : Int) (w : World) (h : MAt w cb ab mb N s) :
    Calls Try.prog 55 #[.pointer (some ⟨cb, 0, none⟩), .int .i64 t] w fun e w' => e = .returned (.int .i64 s.told) ∧ MAt w' cb ab mb N (s.took t) ∧ Chg [cb] w w' := by
  have hP := (h.putOwn t).1.putCnt 1
  have hC := (h.putOwn t).2.trans hP.2
  have c6 := cellB h.head (i := 6) (v := .int .i64 s.st) rfl
  have c4 := cellB h.head (i := 4) (v := .int .i64 s.own) rfl
  have c5 := cellB h.head (i := 5) (v := .int .i64 s.cnt) rfl
  have f4 := frozenB h.head 4
  have f5 := frozenB h.head 5
  have HP := Lib.hid (And.intro hP.1 hC)
  clear hP hC h
  unfold MS.told
  by_cases h1 : s.st = 1
  · rw [h1] at c6
    rw [if_pos h1]
    go_enter Try.func55, Try.ntmps55
    go_wp2
    go_ret
    exact ⟨rfl, HP.out.1, HP.out.2⟩
  · rw [if_neg h1]
    have hb : (s.st == 1) = false := by simpa using h1
    clear h1
    go_enter Try.func55, Try.ntmps55
    go_wp2
    go_ret
    exact ⟨rfl, HP.out.1, HP.out.2⟩

set_option maxRecDepth 100000 in
theorem magainc (cb ab mb : Nat) (N : Int) (s : MS) (w : World) (h : MAt w cb ab mb N s) (hcnt : 0 ≤ s.cnt) :
    Calls Try.prog 34 #[.pointer (some ⟨cb, 0, none⟩)] w fun e w' => e = .returned (.tuple #[.bool (decide (¬ 32767 ≤ s.cnt)), .int .i64 (if 32767 ≤ s.cnt then 11 else 0)]) ∧ MAt w' cb ab mb N (if 32767 ≤ s.cnt then s else { s with cnt := s.cnt + 1 }) ∧ Chg [cb] w w' := by
  have c5 := cellB h.head (i := 5) (v := .int .i64 s.cnt) rfl
  have f5 := frozenB h.head 5
  by_cases h1 : 32767 ≤ s.cnt
  · rw [if_pos h1, if_pos h1, decide_eq_false (by simpa using h1)]
    have d1 : decide (32767 ≤ s.cnt) = true := decide_eq_true h1
    have H := Lib.hid h
    clear h h1 f5
    go_enter Try.func34, Try.ntmps34
    go_wp2
    go_ret2
    exact ⟨rfl, H.out, Chg.refl _ _⟩
  · rw [if_neg h1, if_neg h1, decide_eq_true h1]
    have d1 : decide (32767 ≤ s.cnt) = false := decide_eq_false h1
    have hlt : s.cnt < 32767 := by omega
    have HP := Lib.hid (h.putCnt (s.cnt + 1))
    clear h h1
    go_enter Try.func34, Try.ntmps34
    go_wp2
    go_ret2
    exact ⟨rfl, HP.out.1, HP.out.2⟩

set_option maxRecDepth 100000 in
theorem mprotoc (cb ab mb : Nat) (N : Int) (s : MS) (w : World) (h : MAt w cb ab mb N s) :
    Calls Try.prog 28 #[.pointer (some ⟨cb, 0, none⟩)] w fun e w' => e = .returned (.int .i64 s.p) ∧ w = w' := by
  have c1 := cellB h.head (i := 1) (v := .int .i64 s.p) rfl
  have H := Lib.hid (misc cb ab mb N s w h)
  clear h
  go_enter Try.func28, Try.ntmps28
  go_wp2_with (go_at_call 36; refine H.out.mono ?_; rintro e w' ⟨rfl, rfl⟩)
  go_ret
  exact ⟨rfl, rfl⟩

set_option maxRecDepth 100000 in
theorem mwaitingc (cb ab mb : Nat) (N : Int) (s : MS) (w : World) (h : MAt w cb ab mb N s) :
    Calls Try.prog 19 #[.pointer (some ⟨cb, 0, none⟩)] w (IntsPost (ordT s.L) w) := by
  have c7 := cellB h.head (i := 7) (v := .pointer (some ⟨ab, 0, none⟩)) rfl
  have H := Lib.hid (And.intro (misc cb ab mb N s w h) (listc ab mb N s.L w h.list))
  clear h
  go_enter Try.func19, Try.ntmps19
  go_wp2_with (go_at_call 36; refine H.out.1.mono ?_; rintro e w' ⟨rfl, rfl⟩)
  refine H.out.2.mono ?_
  rintro e w1 ⟨v, rfl, ho, hC⟩
  have HO := Lib.hid (And.intro ho hC)
  clear ho hC
  go_wp2
  go_ret
  exact ⟨v, rfl, HO.out.1, HO.out.2⟩

set_option maxRecDepth 100000 in
theorem matc (cb ab mb : Nat) (N : Int) (s : MS) (w : World) (h : MAt w cb ab mb N s) :
    Calls Try.prog 14 #[.pointer (some ⟨cb, 0, none⟩)] w fun e w' => e = .returned (.agg #[.int .i64 s.own, .int .i64 s.cnt, .int .i64 s.st, .int .i64 s.c]) ∧ Chg [] w w' := by
  have c2 := cellB h.head (i := 2) (v := .int .i64 s.c) rfl
  have c4 := cellB h.head (i := 4) (v := .int .i64 s.own) rfl
  have c5 := cellB h.head (i := 5) (v := .int .i64 s.cnt) rfl
  have c6 := cellB h.head (i := 6) (v := .int .i64 s.st) rfl
  have hlt := h.lt.1
  have H := Lib.hid (misc cb ab mb N s _ (h.calm ((Chg.refl [] w).alloc (.cells #[.int .i64 0, .int .i64 0, .int .i64 0, .int .i64 0] 41))))
  clear h
  go_enter Try.func14, Try.ntmps14
  go_wp2_with (go_at_call 36; refine H.out.mono ?_; rintro e w' ⟨rfl, rfl⟩)
  refine region_still_tail 17 (by kernel_rfl) (by kernel_rfl) ?_
  simp only [List.take_succ_cons, List.take_zero, List.drop_succ_cons, List.drop_zero]
  repeat still_step
  refine wpStill_nil ?_
  go_wp2
  refine bodyPost_ret (v := .agg #[.int .i64 s.own, .int .i64 s.cnt, .int .i64 s.st, .int .i64 s.c]) (by simp [results, Try.results14, go_sem]) rfl ⟨rfl, ?_⟩
  exact ((Chg.refl [] w).alloc _).drew

end Go.Proofs.Ytagnobmdcchcaaa
