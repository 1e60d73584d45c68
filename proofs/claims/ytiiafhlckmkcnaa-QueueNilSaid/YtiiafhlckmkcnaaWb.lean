
/- Package waits: New, Put, Change, Leave, Len, Prio, Has: contracts over lists of (thread, priority). -/
import Derived.Test.YtiiafhlckmkcnaaWa
namespace Go.Proofs.Ytiiafhlckmkcnaa
open Go.RowKit

theorem WIn.lookup_none {w : World} {ab mb : Nat} {n : Int} {L1 : List W1} {t p : Int} {b : Bool} (_ : WIn w ab mb n L1) (ha : askR (L1.map W1.pair) t p b = 0) : okT t ∧ okP p ∧ (((L1.map W1.pair).lookup t).isSome = b) := by
  unfold askR at ha
  split at ha
  · omega
  · refine ⟨by unfold okT; omega, by unfold okP; omega, ?_⟩
    cases hc : ((L1.map W1.pair).lookup t).isSome <;> cases b <;> simp [hc] at ha ⊢

theorem mupd_new (L1 : List W1) (t p c : Int) : (L1.map W1.pair).lookup t = none → mupd (L1.map W1.row) t (.agg #[.int .i64 p, .int .i64 c]) = (L1 ++ [W1.mk t p c]).map W1.row := by
  induction L1 with
  | nil => intro _; rfl
  | cons y L1 ih =>
    intro h
    simp only [List.map_cons, W1.pair, W1.row, List.lookup_cons] at h ih ⊢
    by_cases hc : t = y.t
    · simp [hc] at h
    · have hc' : (t == y.t) = false := by simpa using hc
      simp only [hc'] at h
      simp only [mupd, hc, if_false, List.cons_append, List.map_cons, ih h]
      rfl

def w1upd : List W1 → Int → Int → List W1
  | [], _, _ => []
  | y :: r, t, p => if t = y.t then ⟨t, p, y.c⟩ :: r else y :: w1upd r t p
def w1del : List W1 → Int → List W1
  | [], _ => []
  | y :: r, t => if t = y.t then r else y :: w1del r t

theorem w1upd_pair (L1 : List W1) (t p : Int) : (w1upd L1 t p).map W1.pair = wupd (L1.map W1.pair) t p := by
  induction L1 with
  | nil => rfl
  | cons y L1 ih =>
    by_cases hc : t = y.t
    · simp [w1upd, wupd, hc, W1.pair]
    · simpa [w1upd, wupd, hc, W1.pair] using ih
theorem w1del_pair (L1 : List W1) (t : Int) : (w1del L1 t).map W1.pair = wdel (L1.map W1.pair) t := by
  induction L1 with
  | nil => rfl
  | cons y L1 ih =>
    by_cases hc : t = y.t
    · simp [w1del, wdel, hc, W1.pair]
    · simpa [w1del, wdel, hc, W1.pair] using ih
theorem w1del_row (L1 : List W1) (t : Int) : (w1del L1 t).map W1.row = mdel (L1.map W1.row) t := by
  induction L1 with
  | nil => rfl
  | cons y L1 ih =>
    by_cases hc : t = y.t
    · simp [w1del, mdel, hc, W1.row]
    · simpa [w1del, mdel, hc, W1.row] using ih
theorem w1del_sub (L1 : List W1) (t : Int) : (w1del L1 t).Sublist L1 := by
  induction L1 with
  | nil => exact .slnil
  | cons y L1 ih =>
    unfold w1del
    split
    · exact List.sublist_cons_self ..
    · exact ih.cons_cons _
/-- The row that is found is the first of its thread; where threads are no twice: the only one. -/
theorem mupd_old (L1 : List W1) (x : W1) (p : Int) : (L1.map W1.row).lookup x.t = some (.agg #[.int .i64 x.p, .int .i64 x.c]) → mupd (L1.map W1.row) x.t (.agg #[.int .i64 p, .int .i64 x.c]) = (w1upd L1 x.t p).map W1.row := by
  induction L1 with
  | nil => intro h; cases h
  | cons y L1 ih =>
    intro h
    simp only [List.map_cons, W1.row, List.lookup_cons] at h ih ⊢
    by_cases hc : x.t = y.t
    · simp [hc] at h
      simp [mupd, w1upd, hc, W1.row, h]
    · have hc' : (x.t == y.t) = false := by simpa using hc
      simp only [hc'] at h
      simp only [mupd, w1upd, hc, if_false, List.map_cons, ih h]
      rfl
theorem w1upd_ok {n : Int} (L1 : List W1) (t p : Int) (hq : okT t) (hp : okP p) (h : ∀ x ∈ L1, okT x.t ∧ okP x.p ∧ 0 < x.c ∧ x.c ≤ n) : ∀ x ∈ w1upd L1 t p, okT x.t ∧ okP x.p ∧ 0 < x.c ∧ x.c ≤ n := by
  induction L1 with
  | nil => intro x hx; cases hx
  | cons y L1 ih =>
    have hy := h y (by simp)
    have ih := ih (fun x hx => h x (by simp [hx]))
    unfold w1upd
    split
    · intro x hx
      rcases List.mem_cons.1 hx with rfl | hx
      · exact ⟨hq, hp, hy.2.2⟩
      · exact h x (by simp [hx])
    · intro x hx
      rcases List.mem_cons.1 hx with rfl | hx
      · exact hy
      · exact ih x hx
theorem w1upd_c (L1 : List W1) (t p : Int) : (w1upd L1 t p).map W1.c = L1.map W1.c := by
  induction L1 with
  | nil => rfl
  | cons y L1 ih =>
    unfold w1upd
    split <;> simp [ih]

set_option maxRecDepth 100000 in
set_option maxHeartbeats 400000 in
theorem put_yes (ab mb : Nat) (n : Int) (L1 : List W1) (t p : Int) (w : World) (hW : WIn w ab mb n L1) (hn : n < 4611686018427387904) (ha : askR (L1.map W1.pair) t p false = 0) :
    Calls Try.prog 26 #[.pointer (some ⟨ab, 0, none⟩), .int .i64 t, .int .i64 p] w fun e w' => e = .returned (.int .i64 0) ∧ WIn w' ab mb (n + 1) (L1 ++ [⟨t, p, n + 1⟩]) ∧ Chg [ab, mb] w w' := by
  have hask := ask_any ab mb n L1 t p false w hW
  have hOk := hW.lookup_none ha
  rw [ha] at hask
  have hl := hW.low
  have hne := hW.ne
  have HI := Lib.hid hW
  have HO := Lib.hid hOk
  have hm := hW.map
  have hh := hW.head
  clear hW ha hOk
  go_enter Try.func26, Try.ntmps26
  go_wp2_with (go_at_call 47; refine hask.mono ?_; rintro e w' ⟨rfl, hC⟩; have b0 := hC.blk hh (by simp); have c0 := cellB b0 (i := 0) rfl; have c1 := cellB b0 (i := 1) rfl; have f1 := frozenB b0 1)
  refine region_still_tail 11 (by kernel_rfl) (by kernel_rfl) ?_
  simp only [List.take_succ_cons, List.take_zero, List.drop_succ_cons, List.drop_zero]
  repeat still_step
  refine wpStill_nil ?_
  have hm2 := (hm.kept hC (by simp)).kept ((Chg.refl [ab] w').setCell ⟨ab, 1, none⟩ (.int .i64 (n + 1)) (by simp)) (by simpa using hne)
  obtain ⟨w2, hrun, hM, hC2⟩ := run_update_P (P := Try.prog) Try.underlying76 Try.underlying3 (show MapP (w'.setCell ⟨ab, 1, none⟩ (.int .i64 (n + 1))).drew mb _ from hm2) t (.agg #[.int .i64 p, .int .i64 (n + 1)])
  have b2 := hC2.blk (k := ab) (blk_setCell (i := 1) b0 (.int .i64 (n + 1))) (by simpa using hne.symm)
  have hC3 : Chg [ab, mb] w w2 := ((hC.mono (by simp)).setCell ⟨ab, 1, none⟩ (.int .i64 (n + 1)) (by simp)).drew.trans' hC2 (by simp)
  clear hm2 hC2 b0 hm hh
  go_wp2
  go_ret
  refine ⟨rfl, ⟨b2, ?_, ?_, ?_, by omega⟩, hC3⟩
  · rw [← mupd_new L1 t p (n + 1) (by have := HO.out.2.2; simpa using this)]
    exact hM
  · intro x hx
    rcases List.mem_append.1 hx with hx | hx
    · have := HI.out.ok x hx
      refine ⟨this.1, this.2.1, this.2.2.1, by omega⟩
    · simp at hx
      subst hx
      exact ⟨HO.out.1, HO.out.2.1, by show 0 < n + 1; omega, by show n + 1 ≤ n + 1; omega⟩
  · refine List.pairwise_append.2 ⟨HI.out.came, by simp, ?_⟩
    intro x hx y hy
    simp at hy
    subst hy
    have := (HI.out.ok x hx).2.2.2
    show x.c < n + 1
    omega

set_option maxRecDepth 100000 in
set_option maxHeartbeats 400000 in
theorem put_no (ab mb : Nat) (n : Int) (L1 : List W1) (t p : Int) (w : World) (hW : WIn w ab mb n L1) (ha : askR (L1.map W1.pair) t p false ≠ 0) :
    Calls Try.prog 26 #[.pointer (some ⟨ab, 0, none⟩), .int .i64 t, .int .i64 p] w fun e w' => e = .returned (.int .i64 (askR (L1.map W1.pair) t p false)) ∧ Chg [] w w' := by
  have hask := ask_any ab mb n L1 t p false w hW
  generalize askR (L1.map W1.pair) t p false = r at ha hask ⊢
  have ha' : (r == 0) = false := by simpa using ha
  clear hW ha
  go_enter Try.func26, Try.ntmps26
  go_wp2_with (go_at_call 47; refine hask.mono ?_; rintro e w' ⟨rfl, hC⟩)
  go_ret
  exact ⟨rfl, hC⟩

set_option maxRecDepth 100000 in
set_option maxHeartbeats 400000 in
theorem change_no (ab mb : Nat) (n : Int) (L1 : List W1) (t p : Int) (w : World) (hW : WIn w ab mb n L1) (ha : askR (L1.map W1.pair) t p true ≠ 0) :
    Calls Try.prog 33 #[.pointer (some ⟨ab, 0, none⟩), .int .i64 t, .int .i64 p] w fun e w' => e = .returned (.int .i64 (askR (L1.map W1.pair) t p true)) ∧ Chg [] w w' := by
  have hask := ask_any ab mb n L1 t p true w hW
  generalize askR (L1.map W1.pair) t p true = r at ha hask ⊢
  have ha' : (r == 0) = false := by simpa using ha
  clear hW ha
  go_enter Try.func33, Try.ntmps33
  go_wp2_with (go_at_call 47; refine hask.mono ?_; rintro e w' ⟨rfl, hC⟩)
  go_ret
  exact ⟨rfl, hC⟩

set_option maxRecDepth 100000 in
set_option maxHeartbeats 400000 in
theorem leave_no (ab mb : Nat) (n : Int) (L1 : List W1) (t : Int) (w : World) (hW : WIn w ab mb n L1) (ha : askR (L1.map W1.pair) t 1 true ≠ 0) :
    Calls Try.prog 31 #[.pointer (some ⟨ab, 0, none⟩), .int .i64 t] w fun e w' => e = .returned (.int .i64 (askR (L1.map W1.pair) t 1 true)) ∧ Chg [] w w' := by
  have hask := ask_any ab mb n L1 t 1 true w hW
  generalize askR (L1.map W1.pair) t 1 true = r at ha hask ⊢
  have ha' : (r == 0) = false := by simpa using ha
  clear hW ha
  go_enter Try.func31, Try.ntmps31
  go_wp2_with (go_at_call 47; refine hask.mono ?_; rintro e w' ⟨rfl, hC⟩)
  go_ret
  exact ⟨rfl, hC⟩

set_option maxRecDepth 100000 in
set_option maxHeartbeats 400000 in
theorem change_yes (ab mb : Nat) (n : Int) (L1 : List W1) (t p : Int) (w : World) (hW : WIn w ab mb n L1) (ha : askR (L1.map W1.pair) t p true = 0) :
    Calls Try.prog 33 #[.pointer (some ⟨ab, 0, none⟩), .int .i64 t, .int .i64 p] w fun e w' => e = .returned (.int .i64 0) ∧ WIn w' ab mb n (w1upd L1 t p) ∧ Chg [ab, mb] w w' := by
  have hask := ask_any ab mb n L1 t p true w hW
  have hOk := hW.lookup_none ha
  rw [ha] at hask
  have hne := hW.ne
  obtain ⟨x, hx, rfl, hx1, hx2⟩ : ∃ x ∈ L1, x.t = t ∧ (L1.map W1.pair).lookup t = some x.p ∧ (L1.map W1.row).lookup t = some (.agg #[.int .i64 x.p, .int .i64 x.c]) := by
    rcases W1.lookup_row L1 t with ⟨h1, h2⟩ | h
    · have := hOk.2.2
      rw [h1] at this
      cases this
    · exact h
  have HI := Lib.hid hW
  have HO := Lib.hid hOk
  have HX := Lib.hid hx2
  clear ha hOk hx1
  have hm := hW.map
  have hh := hW.head
  clear hW
  go_enter Try.func33, Try.ntmps33
  go_wp2_with (go_at_call 47; refine hask.mono ?_; rintro e w' ⟨rfl, hC⟩; have b0 := hC.blk hh (by simp); have c0 := cellB b0 (i := 0) rfl)
  have hl := ((HI.out.kept hC (by simp) (by simp)).drew).find1 HX.out
  refine region_still_tail 14 (by kernel_rfl) (by kernel_rfl) ?_
  simp only [List.take_succ_cons, List.take_zero, List.drop_succ_cons, List.drop_zero]
  repeat still_step
  refine wpStill_nil ?_
  have hm2 := hm.kept hC (by simp)
  obtain ⟨w2, hrun, hM, hC2⟩ := run_update_P (P := Try.prog) Try.underlying76 Try.underlying3 (show MapP w'.drew mb _ from hm2) x.t (.agg #[.int .i64 p, .int .i64 x.c])
  have b2 := hC2.blk (k := ab) b0 (by simpa using hne.symm)
  have hC3 : Chg [ab, mb] w w2 := (hC.mono (by simp)).drew.trans' hC2 (by simp)
  clear hm2 hC2 b0 hm hh hl
  go_wp2
  go_ret
  refine ⟨rfl, ⟨b2, ?_, ?_, ?_, HI.out.low⟩, hC3⟩
  · rw [← mupd_old L1 x p HX.out]
    exact hM
  · exact w1upd_ok L1 x.t p HO.out.1 HO.out.2.1 HI.out.ok
  · have := HI.out.came
    have h1 : (L1.map W1.c).Pairwise (· < ·) := List.pairwise_map.2 this
    rw [← w1upd_c L1 x.t p] at h1
    exact List.pairwise_map.1 h1

set_option maxRecDepth 100000 in
set_option maxHeartbeats 400000 in
theorem leave_yes (ab mb : Nat) (n : Int) (L1 : List W1) (t : Int) (w : World) (hW : WIn w ab mb n L1) (ha : askR (L1.map W1.pair) t 1 true = 0) :
    Calls Try.prog 31 #[.pointer (some ⟨ab, 0, none⟩), .int .i64 t] w fun e w' => e = .returned (.int .i64 0) ∧ WIn w' ab mb n (w1del L1 t) ∧ Chg [ab, mb] w w' := by
  have hask := ask_any ab mb n L1 t 1 true w hW
  rw [ha] at hask
  have hne := hW.ne
  have HI := Lib.hid hW
  have hm := hW.map
  have hh := hW.head
  clear hW ha
  go_enter Try.func31, Try.ntmps31
  go_wp2_with (go_at_call 47; refine hask.mono ?_; rintro e w' ⟨rfl, hC⟩; have b0 := hC.blk hh (by simp); have c0 := cellB b0 (i := 0) rfl; obtain ⟨w2, hrun, hM, hC2⟩ := run_delete_P (P := Try.prog) Try.underlying76 Try.underlying3 (hm.kept hC (by simp)) t 3 0)
  have b2 := hC2.blk (k := ab) b0 (by simpa using hne.symm)
  have hC3 : Chg [ab, mb] w w2 := (hC.mono (by simp)).trans' hC2 (by simp)
  clear hC2 b0 hm hh
  go_ret
  refine ⟨rfl, ⟨b2, ?_, fun x hx => HI.out.ok x ((w1del_sub L1 t).subset hx), HI.out.came.sublist (w1del_sub L1 t), HI.out.low⟩, hC3⟩
  rw [w1del_row]
  exact hM

set_option maxRecDepth 100000 in
set_option maxHeartbeats 400000 in
theorem prio_any (ab mb : Nat) (n : Int) (L1 : List W1) (t : Int) (w : World) (hW : WIn w ab mb n L1) :
    Calls Try.prog 65 #[.pointer (some ⟨ab, 0, none⟩), .int .i64 t] w fun e w' => e = .returned (.tuple #[.int .i64 (prioR (L1.map W1.pair) t), .bool ((L1.map W1.pair).lookup t).isSome]) ∧ Chg [] w w' := by
  have c0 := cellB hW.head (i := 0) rfl
  have ht := there_yes ab mb w c0
  rcases hW.find t with ⟨h1, h2⟩ | ⟨x, hx, h0, h1, h2⟩
  all_goals
    unfold prioR
    rw [h1]
    clear hW h1
    go_enter Try.func65, Try.ntmps65
    go_wp2_with (go_at_call 53; refine ht.mono ?_; rintro e w' ⟨rfl, rfl⟩)
    go_ret2
    exact ⟨rfl, (Chg.refl _ _).alloc _⟩

set_option maxRecDepth 100000 in
set_option maxHeartbeats 400000 in
theorem has_any (ab mb : Nat) (n : Int) (L1 : List W1) (t : Int) (w : World) (hW : WIn w ab mb n L1) :
    Calls Try.prog 50 #[.pointer (some ⟨ab, 0, none⟩), .int .i64 t] w fun e w' => e = .returned (.bool ((L1.map W1.pair).lookup t).isSome) ∧ Chg [] w w' := by
  have hp := prio_any ab mb n L1 t w hW
  generalize ((L1.map W1.pair).lookup t).isSome = r at hp ⊢
  generalize prioR (L1.map W1.pair) t = q at hp ⊢
  clear hW
  go_enter Try.func50, Try.ntmps50
  go_wp2_with (go_at_call 65; refine hp.mono ?_; rintro e w' ⟨rfl, hC⟩)
  go_ret
  exact ⟨rfl, hC⟩

def NewPost (w : World) (e : Ending) (w' : World) : Prop := ∃ ab mb, e = .returned (.pointer (some ⟨ab, 0, none⟩)) ∧ w.heap.size ≤ ab ∧ w.heap.size ≤ mb ∧ WIn w' ab mb 0 [] ∧ Chg [] w w'

set_option maxRecDepth 100000 in
set_option maxHeartbeats 400000 in
theorem new_any (w : World) : Calls Try.prog 22 #[] w (NewPost w) := by
  have hmm := @run_makeMap Try.prog
  go_enter Try.func22, Try.ntmps22
  go_wp2
  go_ret
  refine ⟨w.heap.size + 1, w.heap.size, rfl, by omega, by omega, ⟨?_, ?_, by simp, by simp, by omega⟩, ((Chg.refl _ _).alloc _).alloc _⟩
  · have := heap_alloc_eq (w.alloc (.map #[] 0)) (.cells #[.map (some w.heap.size), .int .i64 0] 78)
    rw [World.size_alloc] at this
    exact this
  · exact (MapP.made w).kept ((Chg.refl [] _).alloc _) (by simp)

end Go.Proofs.Ytiiafhlckmkcnaa
