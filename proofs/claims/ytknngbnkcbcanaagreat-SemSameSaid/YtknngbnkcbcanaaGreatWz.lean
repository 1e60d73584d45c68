
/- Package waits: lists that are not there. -/
import Derived.Test.YtknngbnkcbcanaaGreatWo
namespace Go.Proofs.YtknngbnkcbcanaaGreat
open Go.RowKit Go.Shelf
attribute [local go_sem] Oper.semAt_some

set_option maxRecDepth 100000 in
theorem nil_there (w : World) : Calls Tryz.prog 56 #[.pointer none] w fun e w' => e = .returned (.bool false) ∧ w = w' := by
  go_enter Tryz.func56, Tryz.ntmps56
  go_wp2
  go_ret
  exact ⟨rfl, rfl⟩

set_option maxRecDepth 100000 in
theorem nil_ask (t p : Int) (b : Bool) (w : World) : Calls Tryz.prog 67 #[.pointer none, .int .i64 t, .int .i64 p, .bool b] w fun e w' => e = .returned (.int .i64 1) ∧ w = w' := by
  go_enter Tryz.func67, Tryz.ntmps67
  go_wp2_with (go_at_call 56; refine (nil_there _).mono ?_; rintro e w' ⟨rfl, rfl⟩)
  go_ret
  exact ⟨rfl, rfl⟩

set_option maxRecDepth 100000 in
theorem nil_put (t p : Int) (w : World) : Calls Tryz.prog 42 #[.pointer none, .int .i64 t, .int .i64 p] w fun e w' => e = .returned (.int .i64 1) ∧ w = w' := by
  go_enter Tryz.func42, Tryz.ntmps42
  go_wp2_with (go_at_call 67; refine (nil_ask _ _ _ _).mono ?_; rintro e w' ⟨rfl, rfl⟩)
  go_ret
  exact ⟨rfl, rfl⟩
set_option maxRecDepth 100000 in
theorem nil_change (t p : Int) (w : World) : Calls Tryz.prog 70 #[.pointer none, .int .i64 t, .int .i64 p] w fun e w' => e = .returned (.int .i64 1) ∧ w = w' := by
  go_enter Tryz.func70, Tryz.ntmps70
  go_wp2_with (go_at_call 67; refine (nil_ask _ _ _ _).mono ?_; rintro e w' ⟨rfl, rfl⟩)
  go_ret
  exact ⟨rfl, rfl⟩
set_option maxRecDepth 100000 in
theorem nil_leave (t : Int) (w : World) : Calls Tryz.prog 66 #[.pointer none, .int .i64 t] w fun e w' => e = .returned (.int .i64 1) ∧ w = w' := by
  go_enter Tryz.func66, Tryz.ntmps66
  go_wp2_with (go_at_call 67; refine (nil_ask _ _ _ _).mono ?_; rintro e w' ⟨rfl, rfl⟩)
  go_ret
  exact ⟨rfl, rfl⟩
set_option maxRecDepth 100000 in
theorem nil_prio (t : Int) (w : World) : Calls Tryz.prog 78 #[.pointer none, .int .i64 t] w fun e w' => e = .returned (.tuple #[.int .i64 0, .bool false]) ∧ w = w' := by
  go_enter Tryz.func78, Tryz.ntmps78
  go_wp2_with (go_at_call 56; refine (nil_there _).mono ?_; rintro e w' ⟨rfl, rfl⟩)
  go_ret2
  exact ⟨rfl, rfl⟩
set_option maxRecDepth 100000 in
theorem nil_len (w : World) : Calls Tryz.prog 52 #[.pointer none] w fun e w' => e = .returned (.int .i64 0) ∧ w = w' := by
  go_enter Tryz.func52, Tryz.ntmps52
  go_wp2_with (go_at_call 56; refine (nil_there _).mono ?_; rintro e w' ⟨rfl, rfl⟩)
  go_ret
  exact ⟨rfl, rfl⟩
set_option maxRecDepth 100000 in
theorem nil_copy (w : World) : Calls Tryz.prog 51 #[.pointer none] w fun e w' => e = .returned (.pointer none) ∧ Chg [] w w' := by
  go_enter Tryz.func51, Tryz.ntmps51
  go_wp2_with (go_at_call 56; refine (nil_there _).mono ?_; rintro e w' ⟨rfl, rfl⟩)
  go_ret
  exact ⟨rfl, by first | exact Chg.refl _ _ | exact (Chg.refl _ _).alloc _⟩
set_option maxRecDepth 100000 in
theorem nil_sorted (n : Nat) (w : World) : Calls Tryz.prog 60 #[.pointer none, .func (.func n) #[] #[]] w fun e w' => e = .returned (.slice none 0 0) ∧ Chg [] w w' := by
  go_enter Tryz.func60, Tryz.ntmps60
  go_wp2_with (go_at_call 56; refine (nil_there _).mono ?_; rintro e w' ⟨rfl, rfl⟩)
  go_ret
  exact ⟨rfl, by first | exact Chg.refl _ _ | exact (Chg.refl _ _).alloc _ | exact ((Chg.refl _ _).alloc _).alloc _⟩
set_option maxRecDepth 100000 in
theorem nil_list (w : World) : Calls Tryz.prog 71 #[.pointer none] w fun e w' => e = .returned (.slice none 0 0) ∧ Chg [] w w' := by
  go_enter Tryz.func71, Tryz.ntmps71
  go_wp2_with (go_at_call 60; refine (nil_sorted _ _).mono ?_; rintro e w' ⟨rfl, hC⟩)
  go_ret
  exact ⟨rfl, hC⟩

set_option maxRecDepth 100000 in
set_option maxHeartbeats 1000000 in
theorem nil_all1_stops (S : List Nat) (Ts : List TypeId) (bw : Nat) (w : World) (hbw : w.heap[bw]? = some (.cells #[.pointer none] 47 (0, 0))) :
    SeqStopsK Fence.wide 4 Tryz.prog 77 #[.pointer (some ⟨bw, 0, none⟩)] encW (KpS S Ts) (fun xs => xs = ([] : WL)) (fun pre => pre = []) 0 w := fun l J Jx W hBW hJ hJx hY h0 => by
  have hbW : W.heap[bw]? = some (.cells #[.pointer none] 47 (0, 0)) := (hBW.block bw (lt_of_blk hbw)).trans hbw
  have cb := cellB hbW (i := 0) rfl
  refine callsIn_of_wp Tryz.func77 rfl trivial ?_ rfl
  simp only [Tryz.ntmps77, List.size_toArray, List.length_cons, List.length_nil, Nat.reduceAdd, Nat.reduceSub, Array.replicate_succ, Array.replicate_zero, List.push_toArray, List.append_toArray, List.nil_append, List.cons_append]
  have HL := Lib.hid (nil_list W)
  have HJ := Lib.hid hJ
  have HJx := Lib.hid hJx
  have HY := Lib.hid hY
  clear hbw hbW hBW hJ hJx hY
  gi_wp2_with (refine ⟨trivial, ?_⟩; gi_at_call 71; refine (callsIn_wide.2 HL.out).mono ?_; rintro e w' ⟨rfl, hC⟩)
  have HC := Lib.hid hC
  clear hC
  refine wpIn_loop_rounds 1 ?_
  rw [roundsIn_succ]
  gi_wp2
  go_end0
  exact ⟨⟨_, rfl⟩, .inl ⟨[], rfl, HJ.out _ W w' none h0 HC.out.grown (by simp)⟩⟩

set_option maxRecDepth 100000 in
set_option maxHeartbeats 1000000 in
theorem nil_first (w : World) :
    Calls Tryz.prog 68 #[.pointer none] w fun e w' => e = .returned (.tuple #[.int .i64 0, .bool false]) ∧ Chg [] w w' := by
  have hC0 : Chg [] w (((w.alloc (.cells #[.int .i64 0] 3)).alloc (.cells #[.bool false] 4)).alloc (.cells #[.pointer none] 47)) := (((Chg.refl [] w).alloc _).alloc _).alloc _
  have b4 : (((w.alloc (.cells #[.int .i64 0] 3)).alloc (.cells #[.bool false] 4)).alloc (.cells #[.pointer none] 47)).heap[w.heap.size]? = some (.cells #[.int .i64 0] 3 (0, 0)) := blk_alloc (blk_alloc (heap_alloc_eq w _) _) _
  have b5 : (((w.alloc (.cells #[.int .i64 0] 3)).alloc (.cells #[.bool false] 4)).alloc (.cells #[.pointer none] 47)).heap[w.heap.size + 1]? = some (.cells #[.bool false] 4 (0, 0)) := blk_alloc (by have := heap_alloc_eq (w.alloc (.cells #[.int .i64 0] 3)) (.cells #[.bool false] 4); rwa [World.size_alloc] at this) _
  have b2 : (((w.alloc (.cells #[.int .i64 0] 3)).alloc (.cells #[.bool false] 4)).alloc (.cells #[.pointer none] 47)).heap[w.heap.size + 1 + 1]? = some (.cells #[.pointer none] 47 (0, 0)) := by
    have := heap_alloc_eq ((w.alloc (.cells #[.int .i64 0] 3)).alloc (.cells #[.bool false] 4)) (.cells #[.pointer none] 47); rwa [World.size_alloc, World.size_alloc] at this
  have hseq := nil_all1_stops [] [] (w.heap.size + 1 + 1) (((w.alloc (.cells #[.int .i64 0] 3)).alloc (.cells #[.bool false] 4)).alloc (.cells #[.pointer none] 47)) b2
  have HS := Lib.hid hseq
  have H0 := Lib.hid (And.intro b4 (And.intro b5 (And.intro b2 hC0)))
  clear hC0 b4 b5 b2 hseq
  refine (callsIn_wide (n := 6)).1 ?_
  refine callsIn_of_wp_marks Tryz.func68 rfl trivial ?_ rfl
  simp only [Tryz.ntmps68, List.size_toArray, List.length_cons, List.length_nil, Nat.reduceAdd, Nat.reduceSub, Array.replicate_succ, Array.replicate_zero, List.push_toArray, List.append_toArray, List.nil_append, List.cons_append]
  refine wpIn_wide.2 ?_
  go_wp2
  go_step3
  go_wp2
  go_step3
  go_wp2_with (go_at_call 63; refine (all_any _ _).mono ?_; rintro e w' ⟨rfl, rfl⟩)
  refine (wpIn_wide (n := 5)).1 ?_
  generalize hWL : (((w.alloc (.cells #[.int .i64 0] 3)).alloc (.cells #[.bool false] 4)).alloc (.cells #[.pointer none] 47)) = WL at *
  have HWL := Lib.hid (show WL.heap.size = w.heap.size + 1 + 1 + 1 by rw [← hWL]; simp)
  clear hWL
  refine wpIn_rangeFunc_ownH rfl (by omega) (gf := 77) (lb := #[.pointer (some ⟨w.heap.size + 1 + 1, 0, none⟩)]) rfl trivial (enters_of Tryz.func77 (by kernel_rfl) rfl) HS.out
    KpS.trans (fun W l o o' _ ho h1 h2 => KpS.put o' ho h1 h2) (Below.refl _ _) (fun _ => rfl)
    (fun pre W => pre = [] ∧ W.heap[w.heap.size]? = some (.cells #[.int .i64 0] 3 (0, 0)) ∧ W.heap[w.heap.size + 1]? = some (.cells #[.bool false] 4 (0, 0)) ∧ Chg [] w W)
    (fun c pre W => False)
    (OwnFrom.and (ownFrom_pure _ (fun pre : List (Int × Int) => pre = [])) (OwnFrom.and (ownFrom_blk _ _ _ _ _) (OwnFrom.and (ownFrom_blk _ _ _ _ _) (ownFrom_chg _ _ _ (by rw [HWL.out]; omega)))))
    (fun c s A B row hs hg hr => hs)
    ⟨rfl, H0.out.1, H0.out.2.1, H0.out.2.2.2⟩
    (fun _ _ _ => True)
    (fun _ _ _ _ _ _ _ _ _ => trivial)
    ?assign ?body ?done ?stop
  case assign =>
    rintro l pre x W K ⟨rfl, h4, h5, hC⟩ hK
    have HC := Lib.hid (And.intro h4 (And.intro h5 hC))
    clear h4 h5 hC
    unfold encW
    gi_wp2
    exact hK _ _ (keepsFrom_chg ((Chg.refl [] _).alloc _) (by simp)) (KpS.chg ((Chg.refl [] _).alloc _) (by simp)) ⟨by simp, blk_alloc HC.out.1 _, blk_alloc HC.out.2.1 _, HC.out.2.2.alloc _⟩ trivial
  case body =>
    rintro l pre x a' W hl ⟨r, hr⟩ _ _ hlt
    simp at hlt
  case done =>
    rintro D xs W hD hxs ⟨hnil, h4, h5, hC⟩ hK
    have c4 := cellB h4 (i := 0) rfl
    have c5 := cellB h5 (i := 0) rfl
    have HC := Lib.hid hC
    have HK := Lib.hid hK
    clear h4 h5 hC hK hnil hxs
    go_wp2
    go_quiet (fail)
    go_wp2
    refine ⟨by simp, .inl ⟨_, _, rfl, run_takeDeferred (show (W.drewN nq).heap[D]? = _ from HK.out), ?_⟩⟩
    exact ⟨_, results_tmp2 rfl _ _ _, rfl, ((HC.out.drewN nq).setBlock D _ (.inr (by have := HWL.out; omega)))⟩
  case stop =>
    rintro D c pre W hD hpre h hK
    exact h.elim

set_option maxRecDepth 100000 in
theorem nil_take (w : World) : Calls Tryz.prog 45 #[.pointer none] w fun e w' => e = .returned (.tuple #[.int .i64 0, .bool false]) ∧ Chg [] w w' := by
  go_enter Tryz.func45, Tryz.ntmps45
  go_wp2_with (go_at_call 68; refine (nil_first _).mono ?_; rintro e w' ⟨rfl, hC⟩)
  go_ret2
  exact ⟨rfl, hC⟩
set_option maxRecDepth 100000 in
theorem nil_clear (w : World) : Calls Tryz.prog 54 #[.pointer none] w fun e w' => e = .returned (.slice none 0 0) ∧ Chg [] w w' := by
  go_enter Tryz.func54, Tryz.ntmps54
  go_wp2_with (first | (go_at_call 71; refine (nil_list _).mono ?_; rintro e w' ⟨rfl, hC⟩) | (go_at_call 56; refine (nil_there _).mono ?_; rintro e w' ⟨rfl, rfl⟩))
  go_ret
  exact ⟨rfl, hC⟩
set_option maxRecDepth 100000 in
theorem nil_same2 (w : World) : Calls Tryz.prog 35 #[.pointer none, .pointer none] w fun e w' => e = .returned (.bool true) ∧ w = w' := by
  go_enter Tryz.func35, Tryz.ntmps35
  go_wp2_with (go_at_call 56; refine (nil_there _).mono ?_; rintro e w' ⟨rfl, rfl⟩)
  go_ret
  exact ⟨rfl, rfl⟩
set_option maxRecDepth 100000 in
theorem nil_same1 (ab mb : Nat) (N : Int) (L : WL) (w : World) (h : WAt w ab mb N L) : Calls Tryz.prog 35 #[.pointer (some ⟨ab, 0, none⟩), .pointer none] w fun e w' => e = .returned (.bool false) ∧ w = w' := by
  have hT : ∀ a : Option Addr, a = some ⟨ab, 0, none⟩ ∨ a = none → Calls Tryz.prog 56 #[.pointer a] w fun e w' => e = .returned (.bool a.isSome) ∧ w = w' := by
    rintro a (rfl | rfl)
    · exact h.yes
    · exact nil_there w
  have HT := Lib.hid hT
  clear h hT
  go_enter Tryz.func35, Tryz.ntmps35
  go_wp2_with (go_at_call 56; refine (HT.out _ (by first | exact .inl rfl | exact .inr rfl)).mono ?_; rintro e w' ⟨rfl, rfl⟩; simp only [Option.isSome_some, Option.isSome_none])
  go_ret
  exact ⟨rfl, rfl⟩

end Go.Proofs.YtknngbnkcbcanaaGreat
