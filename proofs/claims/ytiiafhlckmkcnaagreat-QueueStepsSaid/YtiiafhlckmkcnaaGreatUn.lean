
/- metronomelaw18: num, m, top: contracts. -/
import Derived.Test.YtiiafhlckmkcnaaGreatUm
namespace Go.Proofs.YtiiafhlckmkcnaaGreat
open Go.RowKit Go.Shelf
attribute [local go_sem] Oper.semAt_some

set_option maxRecDepth 100000 in
theorem unumc (e : Int) (w : World) : Calls Tryz.prog 11 #[.int .i64 e] w fun r w' => r = .returned (.int .i64 e) ∧ w = w' := by
  go_enter Tryz.func11, Tryz.ntmps11
  go_wp2
  go_ret
  exact ⟨rfl, rfl⟩

set_option maxRecDepth 100000 in
theorem umsgc (a b : Int) (w : World) : Calls Tryz.prog 23 #[.int .i64 a, .int .i64 b] w fun r w' => r = .returned (msgV (a, b)) ∧ Chg [] w w' := by
  obtain ⟨w1, hw1⟩ : ∃ w1, w1 = w.alloc (.cells #[.int .i64 0, .int .i64 0] 33 (0, 0)) := ⟨_, rfl⟩
  obtain ⟨br, hbr⟩ : ∃ br, br = w.heap.size := ⟨_, rfl⟩
  have hC : Chg [] w w1 := by rw [hw1]; exact (Chg.refl _ _).alloc _
  have hr : w1.heap[br]? = some (.cells #[.int .i64 0, .int .i64 0] 33 (0, 0)) := by rw [hw1, hbr]; exact heap_alloc_eq w _
  have r0 := cellB hr (i := 0) (v := .int .i64 0) rfl
  have r1 := cellB hr (i := 1) (v := .int .i64 0) rfl
  have f1 := frozenB hr
  have HH := Lib.hid (And.intro hC (And.intro hr (show w.heap.size ≤ br by omega)))
  have hbu : ∀ W : World, (Instr.build 33 #[(0, .int .i64 a), (1, .int .i64 b)]).run Tryz.prog W = .ok (.agg #[.int .i64 a, .int .i64 b]) W := fun W => by kernel_rfl
  clear hC hr
  go_enter Tryz.func23, Tryz.ntmps23
  go_upto_region 1 with fail
  rw [← hbr, ← hw1]
  clear hbr hw1
  go_wp2
  obtain ⟨W, hW⟩ : ∃ W, W = (w1.setCell ⟨br, 0, none⟩ (.int .i64 a)).setCell ⟨br, 1, none⟩ (.int .i64 b) := ⟨_, rfl⟩
  have hf : W.heap[br]? = some (.cells #[.int .i64 a, .int .i64 b] 33 (0, 0)) := by rw [hW]; exact blk_setCell (blk_setCell HH.out.2.1 _) _
  have hCW : Chg [br] w1 W := by rw [hW]; exact ((Chg.refl _ _).setCell _ _ (by simp)).setCell _ _ (by simp)
  have q0 := cellB hf (i := 0) rfl
  have q1 := cellB hf (i := 1) rfl
  rw [← hW]
  refine ⟨rfl, .agg #[.int .i64 a, .int .i64 b], ?_, rfl, HH.out.1.trans' hCW (fun k hk => by simp at hk; subst hk; exact .inr HH.out.2.2)⟩
  simp [results, Tryz.results23, go_sem, q0, q1]

theorem eql_seqM_nil (f : Fn) (a b : Array Value) (w : World) : (binOp .eql 83 (.func f a b) .nilFunc).run Tryz.prog w = .ok (.bool false) w := by kernel_rfl

theorem KeepsD (D : Nat) (W : World) : Chg [D] W (W.putObj D (.deferred none)) := by
  have hg := grownBy_putObj' W D (.deferred none)
  exact ⟨hg.os, hg.tape, hg.output, hg.size, fun k hk hn => hg.block k hk (fun e => by cases e; simp at hn)⟩
def topM (l : WL) : Int × Int := match l with | [] => (0, 0) | x :: _ => x
def topB (l : WL) : Bool := match l with | [] => false | _ :: _ => true

end Go.Proofs.YtiiafhlckmkcnaaGreat
