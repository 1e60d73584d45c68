
/- cmp.Compare, cmp.Or at two numbers; the closures by which package waits sorts: they compute, and may lay blocks. -/
import Derived.Test.YtiiafhlckmkcnaaWb
import Derived.Sort.Grow
import Derived.Lib.Small
import Derived.LoopN
namespace Go.Proofs.Ytiiafhlckmkcnaa
open Go.RowKit

/-- Draws and new blocks, nothing else. -/
def Grw (w w' : World) : Prop := ∃ q os, w' = Go.Sort.grow (w.drewN q) os
theorem Grw.refl (w : World) : Grw w w := ⟨0, #[], by rw [Go.Sort.grow_empty]; rfl⟩
theorem Grw.trans {a b c : World} (h : Grw a b) (g : Grw b c) : Grw a c := by
  obtain ⟨q, os, rfl⟩ := h
  obtain ⟨q', os', rfl⟩ := g
  exact ⟨q + q', os ++ os', by rw [← Go.Sort.grow_grow]; simp [Go.Sort.grow, World.drewN, Nat.add_assoc]⟩
theorem Grw.drew {a b : World} (h : Grw a b) : Grw a b.drew := h.trans ⟨1, #[], by rw [Go.Sort.grow_empty]; rfl⟩
theorem Grw.alloc {a b : World} (h : Grw a b) (o : Obj) : Grw a (b.alloc o) := h.trans ⟨0, #[o], by rw [Go.Sort.alloc_eq_grow]; rfl⟩
theorem Grw.chg {S : List Nat} {a b : World} (h : Grw a b) : Chg S a b := by
  obtain ⟨q, os, rfl⟩ := h
  refine ⟨rfl, rfl, rfl, by simp [Go.Sort.grow, World.drewN], fun k hk _ => ?_⟩
  simp only [Go.Sort.grow, World.drewN]
  rw [Array.getElem?_append_left hk]

set_option maxRecDepth 100000 in
set_option maxHeartbeats 400000 in
theorem compare_int (x y : Int) (w : World) : Calls Try.prog 68 #[.int .i64 x, .int .i64 y] w fun e w' => e = .returned (.int .i64 (Lib.compareInt x y)) ∧ w' = w := by
  rcases Int.lt_trichotomy x y with h | h | h
  · have e1 : Lib.compareInt x y = -1 := by simp [Lib.compareInt, h]
    rw [e1]
    clear e1
    go_enter Try.func68, Try.ntmps68
    go_wp2
    go_ret
    exact ⟨rfl, rfl⟩
  · subst h
    have e1 : Lib.compareInt x x = 0 := by simp [Lib.compareInt]
    rw [e1]
    clear e1
    go_enter Try.func68, Try.ntmps68
    go_wp2
    go_ret
    exact ⟨rfl, rfl⟩
  · have e1 : Lib.compareInt x y = 1 := by
      have h' : ¬ x < y := by omega
      simp [Lib.compareInt, h, h']
    rw [e1]
    clear e1
    go_enter Try.func68, Try.ntmps68
    go_wp2
    go_ret
    exact ⟨rfl, rfl⟩

set_option maxRecDepth 100000 in
set_option maxHeartbeats 400000 in
theorem compare_int64 (x y : Int) (w : World) : Calls Try.prog 56 #[.int .i64 x, .int .i64 y] w fun e w' => e = .returned (.int .i64 (Lib.compareInt x y)) ∧ w' = w := by
  rcases Int.lt_trichotomy x y with h | h | h
  · have e1 : Lib.compareInt x y = -1 := by simp [Lib.compareInt, h]
    rw [e1]
    clear e1
    go_enter Try.func56, Try.ntmps56
    go_wp2
    go_ret
    exact ⟨rfl, rfl⟩
  · subst h
    have e1 : Lib.compareInt x x = 0 := by simp [Lib.compareInt]
    rw [e1]
    clear e1
    go_enter Try.func56, Try.ntmps56
    go_wp2
    go_ret
    exact ⟨rfl, rfl⟩
  · have e1 : Lib.compareInt x y = 1 := by
      have h' : ¬ x < y := by omega
      simp [Lib.compareInt, h, h']
    rw [e1]
    clear e1
    go_enter Try.func56, Try.ntmps56
    go_wp2
    go_ret
    exact ⟨rfl, rfl⟩

def orI (x y : Int) : Int := if x = 0 then y else x

set_option maxRecDepth 100000 in
set_option maxHeartbeats 400000 in
theorem or_two (x y : Int) (b : Nat) (w : World) (c0 : w.cell? ⟨b, 0, none⟩ = some (.int .i64 x)) (c1 : w.cell? ⟨b, 1, none⟩ = some (.int .i64 y)) :
    Calls Try.prog 67 #[.slice (some ⟨b, 0, none⟩) 2 2] w fun e w' => e = .returned (.int .i64 (orI x y)) ∧ w = w' := by
  unfold orI
  by_cases hx : x = 0
  · subst hx
    by_cases hy : y = 0
    · subst hy
      go_enter Try.func67, Try.ntmps67
      go_wp2
      refine wp_loop_rounds 3 ?_
      iterate 3
        rw [rounds_succ]
        go_wp2
      go_ret
      exact ⟨rfl, rfl⟩
    · have hy' : (y != 0) = true := by simpa using hy
      go_enter Try.func67, Try.ntmps67
      go_wp2
      refine wp_loop_rounds 2 ?_
      iterate 2
        rw [rounds_succ]
        go_wp2
      go_ret
      exact ⟨rfl, rfl⟩
  · have hx' : (x != 0) = true := by simpa using hx
    rw [if_neg hx]
    clear hx
    go_enter Try.func67, Try.ntmps67
    go_wp2
    refine wp_loop_rounds 1 ?_
    rw [rounds_succ]
    go_wp2
    go_ret
    exact ⟨rfl, rfl⟩

/-- The order of a list: falling priorities, of one priority who came first ahead. -/
def cfL (p1 c1 p2 c2 : Int) : Int := orI (Lib.compareInt p2 p1) (Lib.compareInt c1 c2)

set_option maxRecDepth 100000 in
set_option maxHeartbeats 400000 in
theorem list1_any (p1 c1 p2 c2 : Int) (w : World) :
    Calls Try.prog 66 #[.agg #[.int .i64 p1, .int .i64 c1], .agg #[.int .i64 p2, .int .i64 c2]] w fun e w' => e = .returned (.int .i64 (cfL p1 c1 p2 c2)) ∧ Grw w w' := by
  unfold cfL
  have k1 := compare_int p2 p1
  have k2 := compare_int64 c1 c2
  generalize Lib.compareInt p2 p1 = r1 at k1 ⊢
  generalize Lib.compareInt c1 c2 = r2 at k2 ⊢
  have k3 := or_two r1 r2
  generalize orI r1 r2 = r at k3 ⊢
  go_enter Try.func66, Try.ntmps66
  go_wp2
  refine region_still_tail 10 (by kernel_rfl) (by kernel_rfl) ?_
  simp only [List.take_succ_cons, List.take_zero, List.drop_succ_cons, List.drop_zero]
  repeat (first | still_step | still_call (k1 _) | still_call (k2 _))
  refine wpStill_nil ?_
  go_wp2_with (go_at_call 67; refine (k3 _ _ ?c1 ?c2).mono ?_)
  case c1 => simp [go_sem]
  case c2 => simp [go_sem]
  rintro e w' ⟨rfl, rfl⟩
  go_wp2
  go_ret
  exact ⟨rfl, ((((Grw.refl w).alloc _).alloc _).drew).alloc _⟩

set_option maxRecDepth 100000 in
set_option maxHeartbeats 400000 in
theorem same1_any (p1 c1 p2 c2 : Int) (w : World) :
    Calls Try.prog 55 #[.agg #[.int .i64 p1, .int .i64 c1], .agg #[.int .i64 p2, .int .i64 c2]] w fun e w' => e = .returned (.int .i64 (Lib.compareInt c1 c2)) ∧ Grw w w' := by
  have k2 := compare_int64 c1 c2
  generalize Lib.compareInt c1 c2 = r2 at k2 ⊢
  go_enter Try.func55, Try.ntmps55
  go_wp2_with (go_at_call 56; refine (k2 _).mono ?_; rintro e w' ⟨rfl, rfl⟩)
  go_ret
  exact ⟨rfl, ((Grw.refl w).alloc _).alloc _⟩

end Go.Proofs.Ytiiafhlckmkcnaa
