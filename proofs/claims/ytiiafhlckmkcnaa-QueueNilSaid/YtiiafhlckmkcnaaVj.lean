
/- metronomelaw18.QueueNil answers true (written by wip/nil18.py). -/
import Derived.Test.YtiiafhlckmkcnaaVh
import Derived.Test.YtiiafhlckmkcnaaUo
namespace Go.Proofs.Ytiiafhlckmkcnaa
open Go.RowKit Go.Shelf
attribute [local go_sem] Oper.semAt_some

theorem neq_seqM_nil (f : Fn) (a b : Array Value) (w : World) : (binOp .neq 63 (.func f a b) .nilFunc).run Try.prog w = .ok (.bool true) w := by kernel_rfl
def nqB : Obj := .cells #[.bool false, .int .i64 0, .int .i64 0, .int .i64 0] 35 (0, 0)
/-- Behind calls at no queue. -/
structure NS (w w' : World) (p : Option Addr) (X : List Nat) : Prop where
  n : NoQ w' p
  c : Chg [] w w'
  x : ∀ b ∈ X, w'.heap[b]? = some nqB
theorem NS.calm {w w1 w2 : World} {p : Option Addr} {X : List Nat} (h : NS w w1 p X) (hC : Chg [] w1 w2) : NS w w2 p X := ⟨h.n.calm hC, h.c.trans hC, fun b hb => hC.blk (h.x b hb) (by simp)⟩
theorem NS.box {w w1 : World} {p : Option Addr} {X : List Nat} (h : NS w w1 p X) : NS w (w1.alloc nqB) p (w1.heap.size :: X) := by
  have k := h.calm (w2 := w1.alloc nqB) ((Chg.refl _ _).alloc _)
  refine ⟨k.n, k.c, fun b hb => ?_⟩
  rcases List.mem_cons.1 hb with rfl | hb
  · exact heap_alloc_eq w1 _
  · exact k.x b hb

set_option maxRecDepth 100000 in
set_option maxHeartbeats 4000000 in
theorem nothing18 (p : Option Addr) (w : World) (h : NoQ w p) : Calls Try.prog 20 #[.pointer p] w fun e w' => e = .returned (.bool true) ∧ Chg [] w w' := by
  have HK := Lib.hid (show NS w w p [] from ⟨h, Chg.refl _ _, by simp⟩)
  clear h
  go_enter Try.func20, Try.ntmps20
  go_wp2_with fail
  refine (umsgc 1 1 w).mono ?_
  rintro e wa ⟨rfl, hC⟩
  replace HK := Lib.hid (HK.out.calm hC)
  clear hC
  unfold msgV
  go_wp2_with fail
  refine (nsendc p 0 1 1 1 wa HK.out.n).mono ?_
  rintro e w1 ⟨rfl, hC⟩
  replace HK := Lib.hid (HK.out.calm hC)
  clear hC
  unfold pdV pd0
  replace HK := Lib.hid HK.out.box
  go_wp2_with fail
  refine (nrcvc p 0 1 _ HK.out.n).mono ?_
  rintro e w2 ⟨rfl, hC⟩
  replace HK := Lib.hid (HK.out.calm hC)
  clear hC
  unfold pdV pd0
  replace HK := Lib.hid HK.out.box
  go_wp2_with fail
  refine (nwaitc p 0 _ HK.out.n).mono ?_
  rintro e w3 ⟨rfl, hC⟩
  replace HK := Lib.hid (HK.out.calm hC)
  clear hC
  go_wp2_with fail
  refine (ntopc p w3 HK.out.n).mono ?_
  rintro e w4 ⟨rfl, hC⟩
  replace HK := Lib.hid (HK.out.calm hC)
  clear hC
  unfold msgV
  replace HK := Lib.hid (HK.out.calm (w2 := w4.alloc (.cells #[.int .i64 0, .int .i64 0] 31 (0, 0))) ((Chg.refl _ _).alloc _))
  obtain ⟨wf, hwf⟩ : ∃ wf, wf = w4.alloc (.cells #[.int .i64 0, .int .i64 0] 31 (0, 0)) := ⟨_, rfl⟩
  rw [← hwf] at HK
  go_upto_region 5 with fail
  rw [← hwf]
  clear hwf
  try simp only [List.append_eq, List.cons_append, List.nil_append]
  have hb0 := fun W : World => pBuild0 W
  have hq0 := fun W : World => (eqlP pd0 pd0 W).trans (by rw [PD.eqb_self])
  unfold pdV pd0 at hq0
  have hnf := fun (W : World) (b : Nat) => neq_seqM_nil (.func 48) #[] #[.pointer (some ⟨b, 0, none⟩)] W
  have HL := Lib.hid (show ∀ W, Chg [] wf W → Calls Try.prog 11 #[.pointer p, .int .i64 0] W fun e w' => e = .returned (.int .i64 1) ∧ Chg [] W w' from fun W hW => nleavec p 0 W (HK.out.n.calm hW))
  have HCh := Lib.hid (show ∀ W, Chg [] wf W → Calls Try.prog 12 #[.pointer p, .int .i64 0, .int .i64 1] W fun e w' => e = .returned (.int .i64 1) ∧ Chg [] W w' from fun W hW => nchc p 0 1 W (HK.out.n.calm hW))
  have HLen := Lib.hid (show ∀ W, Chg [] wf W → Calls Try.prog 13 #[.pointer p] W fun e w' => e = .returned (.int .i64 0) ∧ Chg [] W w' from fun W hW => nlenc p W (HK.out.n.calm hW))
  have HRoom := Lib.hid (show ∀ W, Chg [] wf W → Calls Try.prog 21 #[.pointer p] W fun e w' => e = .returned (.int .i64 0) ∧ Chg [] W w' from fun W hW => nroomc p W (HK.out.n.calm hW))
  have HFull := Lib.hid (show ∀ W, Chg [] wf W → Calls Try.prog 19 #[.pointer p] W fun e w' => e = .returned (.bool false) ∧ Chg [] W w' from fun W hW => nfullc p W (HK.out.n.calm hW))
  have HSn := Lib.hid (show ∀ W, Chg [] wf W → Calls Try.prog 15 #[.pointer p] W fun e w' => e = .returned (.slice none 0 0) ∧ Chg [] W w' from fun W hW => nsendersc p W (HK.out.n.calm hW))
  have HRc := Lib.hid (show ∀ W, Chg [] wf W → Calls Try.prog 14 #[.pointer p] W fun e w' => e = .returned (.slice none 0 0) ∧ Chg [] W w' from fun W hW => nreceiversc p W (HK.out.n.calm hW))
  have HCp := Lib.hid (show ∀ W, Chg [] wf W → Calls Try.prog 17 #[.pointer p] W fun e w' => e = .returned (.pointer none) ∧ Chg [] W w' from fun W hW => ncopyc p W (HK.out.n.calm hW))
  have HSm := Lib.hid (show ∀ W, Chg [] wf W → Calls Try.prog 18 #[.pointer p, .pointer none] W fun e w' => e = .returned (.bool true) ∧ Chg [] W w' from fun W hW => nsamec p W (HK.out.n.calm hW))
  have HCf := Lib.hid (show Chg [] wf wf from Chg.refl _ _)
  have HAll := Lib.hid (show ∀ W : World, Calls Try.prog 27 #[.pointer p] W fun e w' => e = .returned (.func (.func 48) #[] #[.pointer (some ⟨W.heap.size, 0, none⟩)]) ∧ Chg [] W w' from fun W => (uallc p W).mono fun _ _ h => ⟨h.1, by rw [h.2]; exact (Chg.refl _ _).alloc _⟩)
  go_wp2_with (first
    | (go_at_call 7; (with_reducible refine (unumc _ _).mono ?_); rintro e w' ⟨rfl, rfl⟩)
    | (go_at_call 11; (with_reducible refine (HL.out _ HCf.out).mono ?_); rintro e wz ⟨rfl, hC⟩; replace HCf := Lib.hid (HCf.out.trans (by first | exact hC | exact ⟨hC.os, hC.tape, hC.output, hC.size, hC.block⟩)); clear hC)
    | (go_at_call 12; (with_reducible refine (HCh.out _ HCf.out).mono ?_); rintro e wz ⟨rfl, hC⟩; replace HCf := Lib.hid (HCf.out.trans (by first | exact hC | exact ⟨hC.os, hC.tape, hC.output, hC.size, hC.block⟩)); clear hC)
    | (go_at_call 13; (with_reducible refine (HLen.out _ HCf.out).mono ?_); rintro e wz ⟨rfl, hC⟩; replace HCf := Lib.hid (HCf.out.trans (by first | exact hC | exact ⟨hC.os, hC.tape, hC.output, hC.size, hC.block⟩)); clear hC)
    | (go_at_call 21; (with_reducible refine (HRoom.out _ HCf.out).mono ?_); rintro e wz ⟨rfl, hC⟩; replace HCf := Lib.hid (HCf.out.trans (by first | exact hC | exact ⟨hC.os, hC.tape, hC.output, hC.size, hC.block⟩)); clear hC)
    | (go_at_call 19; (with_reducible refine (HFull.out _ HCf.out).mono ?_); rintro e wz ⟨rfl, hC⟩; replace HCf := Lib.hid (HCf.out.trans (by first | exact hC | exact ⟨hC.os, hC.tape, hC.output, hC.size, hC.block⟩)); clear hC)
    | (go_at_call 15; (with_reducible refine (HSn.out _ HCf.out).mono ?_); rintro e wz ⟨rfl, hC⟩; replace HCf := Lib.hid (HCf.out.trans (by first | exact hC | exact ⟨hC.os, hC.tape, hC.output, hC.size, hC.block⟩)); clear hC)
    | (go_at_call 14; (with_reducible refine (HRc.out _ HCf.out).mono ?_); rintro e wz ⟨rfl, hC⟩; replace HCf := Lib.hid (HCf.out.trans (by first | exact hC | exact ⟨hC.os, hC.tape, hC.output, hC.size, hC.block⟩)); clear hC)
    | (go_at_call 17; (with_reducible refine (HCp.out _ HCf.out).mono ?_); rintro e wz ⟨rfl, hC⟩; replace HCf := Lib.hid (HCf.out.trans (by first | exact hC | exact ⟨hC.os, hC.tape, hC.output, hC.size, hC.block⟩)); clear hC)
    | (go_at_call 18; (with_reducible refine (HSm.out _ HCf.out).mono ?_); rintro e wz ⟨rfl, hC⟩; replace HCf := Lib.hid (HCf.out.trans (by first | exact hC | exact ⟨hC.os, hC.tape, hC.output, hC.size, hC.block⟩)); clear hC)
    | (go_at_call 27; (with_reducible refine (HAll.out _).mono ?_); rintro e wz ⟨rfl, hC⟩; replace HCf := Lib.hid (HCf.out.trans (by first | exact hC | exact ⟨hC.os, hC.tape, hC.output, hC.size, hC.block⟩)); clear hC; obtain ⟨y0, y1, y2, y3, y4, y5, y6, y7⟩ : wz.cell? ⟨w1.heap.size, 0, none⟩ = some (.bool false) ∧ wz.cell? ⟨w1.heap.size, 1, none⟩ = some (.int .i64 0) ∧ wz.cell? ⟨w1.heap.size, 2, none⟩ = some (.int .i64 0) ∧ wz.cell? ⟨w1.heap.size, 3, none⟩ = some (.int .i64 0) ∧ wz.cell? ⟨w2.heap.size, 0, none⟩ = some (.bool false) ∧ wz.cell? ⟨w2.heap.size, 1, none⟩ = some (.int .i64 0) ∧ wz.cell? ⟨w2.heap.size, 2, none⟩ = some (.int .i64 0) ∧ wz.cell? ⟨w2.heap.size, 3, none⟩ = some (.int .i64 0) := ⟨cellB (HCf.out.blk (HK.out.x w1.heap.size (by simp)) (by simp)) (i := 0) rfl, cellB (HCf.out.blk (HK.out.x w1.heap.size (by simp)) (by simp)) (i := 1) rfl, cellB (HCf.out.blk (HK.out.x w1.heap.size (by simp)) (by simp)) (i := 2) rfl, cellB (HCf.out.blk (HK.out.x w1.heap.size (by simp)) (by simp)) (i := 3) rfl, cellB (HCf.out.blk (HK.out.x w2.heap.size (by simp)) (by simp)) (i := 0) rfl, cellB (HCf.out.blk (HK.out.x w2.heap.size (by simp)) (by simp)) (i := 1) rfl, cellB (HCf.out.blk (HK.out.x w2.heap.size (by simp)) (by simp)) (i := 2) rfl, cellB (HCf.out.blk (HK.out.x w2.heap.size (by simp)) (by simp)) (i := 3) rfl⟩)
    | fail)
  go_ret
  exact ⟨rfl, HK.out.c.trans HCf.out⟩

/-- k messages sent, of rising priorities. -/
def s32 (k : Nat) : QS := ⟨32, (List.range k).map (fun (i : Nat) => ((i : Int), (i : Int))), [], [], KM0⟩
theorem s32_0 : qnew 32 = s32 0 := by kernel_rfl
theorem s32_send {k : Nat} (h : k < 32) : (s32 k).askE 15 31 k false = 0 ∧ (s32 k).sendP 15 31 ((k : Int), (k : Int)) = ⟨true, k, k, -1⟩ ∧ (s32 k).sendS 15 31 ((k : Int), (k : Int)) = s32 (k + 1) := by
  have h1 : (s32 k).askE 15 31 k false = 0 := by
    unfold QS.askE
    have e1 : tpB 15 31 = true := by decide
    have e2 : mB (k : Int) = true := mB_iff.2 ⟨by omega, by omega⟩
    have e3 : (s32 k).is 15 = false := rfl
    rw [if_pos ⟨e1, e2⟩, e3]
    rfl
  have h2 : (s32 k).full = false := by
    unfold QS.full s32
    simp
    omega
  have h3 : headB (ordL (s32 k).R) = false := by show headB (ordL []) = false; kernel_rfl
  refine ⟨h1, ?_, ?_⟩
  · unfold QS.sendP
    rw [if_pos h1, h3, h2]
    rfl
  · unfold QS.sendS
    rw [if_pos h1, h3, h2]
    show QS.mk 32 ((List.range k).map (fun (i : Nat) => ((i : Int), (i : Int))) ++ [((k : Int), (k : Int))]) [] [] KM0 = QS.mk 32 ((List.range (k + 1)).map (fun (i : Nat) => ((i : Int), (i : Int)))) [] [] KM0
    rw [List.range_succ, List.map_append]
    rfl
def QN1 : QS := ⟨32, (List.range 32).map (fun (i : Nat) => ((i : Int), (i : Int))), [(0, 1)], [], [(1, 31), (0, 0), (0, 0), (0, 0), (0, 0), (0, 0), (0, 0), (0, 0), (0, 0), (0, 0), (0, 0), (0, 0), (0, 0), (0, 0), (0, 0), (0, 0)]⟩
def nX1 : QS := ⟨1, [(1, 1)], [], [], KM0⟩
def nX2 (a : Int) : QS := ⟨1, [(1, 1)], [(1, 5)], [], [(0, 0), (a, 2), (0, 0), (0, 0), (0, 0), (0, 0), (0, 0), (0, 0), (0, 0), (0, 0), (0, 0), (0, 0), (0, 0), (0, 0), (0, 0), (0, 0)]⟩
def nX3 : QS := ⟨1, [(1, 1)], [], [], [(0, 0), (2, 2), (0, 0), (0, 0), (0, 0), (0, 0), (0, 0), (0, 0), (0, 0), (0, 0), (0, 0), (0, 0), (0, 0), (0, 0), (0, 0), (0, 0)]⟩
theorem n_eqv1 : (nX2 2).eqv (nX2 3) = false := by kernel_rfl
theorem n_eqv2 : nX3.eqv nX1 = true := by kernel_rfl
theorem n_full : QN1.full = true := by kernel_rfl
section
variable {w w1 w2 : World} {u : UB} {v : Value} {N N' : Int} {s s' : QS} {X : List (Nat × PD)}
/-- A step, and queues beside it. -/
theorem KQ.aside {r : Value} {e : Ending} (h : KQ w w1 u v N s X) (hS : StepP u v N' s' r w1 e w2) : ∃ v', e = .returned r ∧ KQ w w2 u v' N' s' X ∧
    ∀ (u2 : UB) (v2 : Value) (N2 : Int) (s2 : QS), KQ w w1 u2 v2 N2 s2 [] → (∀ k ∈ blkU u v, k ∉ blkU u2 v2) → KQ w w2 u2 v2 N2 s2 [] ∧ (∀ k ∈ blkU u v', k ∉ blkU u2 v2) := by
  have hS' := hS
  obtain ⟨v', he, hU, hC, hB⟩ := hS
  have hs := h.c.size
  have hsub : ∀ k ∈ blkU u v', k ∈ blkU u v ∨ w1.heap.size ≤ k := fun k hk => by
    rcases List.mem_append.1 hk with h1 | h1
    · exact .inl (List.mem_append.2 (.inl h1))
    · rcases hB.sub k h1 with h2 | h2
      · exact .inl (List.mem_append.2 (.inr h2))
      · exact .inr h2
  have hc : Chg [] w w2 := h.c.trans' hC (fun k hk => .inr (h.g k hk))
  refine ⟨v', he, ⟨hU, hc, fun k hk => ?_, fun b p hm => ?_⟩, fun u2 v2 N2 s2 h2 hD => ⟨⟨h2.at_.kept hC hD, hc, h2.g, by simp⟩, fun k hk hm => ?_⟩⟩
  · rcases hsub k hk with h1 | h1
    · exact h.g k h1
    · omega
  · obtain ⟨h1, h2, h3⟩ := h.x b p hm
    refine ⟨hC.blk h1 h3, h2, fun hk => ?_⟩
    rcases hsub b hk with h4 | h4
    · exact h3 h4
    · have := lt_of_blk h1; omega
  · rcases hsub k hk with h1 | h1
    · exact hD k h1 hm
    · have := h2.at_.lt k hm; omega
end

theorem nst_q1 (u : UB) (v : Value) (N : Int) (w : World) (h : UAt w u v N (s32 32)) (hN : N < 4611686018427387904) :
    Calls Try.prog 8 #[.pointer (some ⟨u.q, 0, none⟩), .int .i64 0, .int .i64 1, .agg #[.int .i64 1, .int .i64 31]] w (StepP u v (N + 1) QN1 (.tuple #[.agg #[.bool false, .int .i64 1, .int .i64 31, .int .i64 (-1)], .int .i64 0]) w) := by
  have hc := usendc u v N _ 0 1 (1, 31) w h hN
  rw [show ((s32 32) : QS).sendS 0 1 (1, 31) = QN1 from by kernel_rfl, show ((s32 32) : QS).sendP 0 1 (1, 31) = ⟨false, 1, 31, -1⟩ from by kernel_rfl, show ((s32 32) : QS).askE 0 1 31 false = 0 from by kernel_rfl] at hc
  exact hc
theorem nst_q2 (u : UB) (v : Value) (N : Int) (w : World) (h : UAt w u v N QN1) (hN : N < 4611686018427387904) :
    Calls Try.prog 8 #[.pointer (some ⟨u.q, 0, none⟩), .int .i64 0, .int .i64 1, .agg #[.int .i64 1, .int .i64 0]] w (StepP u v (N + 1) QN1 (.tuple #[.agg #[.bool false, .int .i64 0, .int .i64 0, .int .i64 0], .int .i64 7]) w) := by
  have hc := usendc u v N _ 0 1 (1, 0) w h hN
  rw [show (QN1 : QS).sendS 0 1 (1, 0) = QN1 from by kernel_rfl, show (QN1 : QS).sendP 0 1 (1, 0) = ⟨false, 0, 0, 0⟩ from by kernel_rfl, show (QN1 : QS).askE 0 1 0 false = 7 from by kernel_rfl] at hc
  exact hc
theorem nst_q3 (u : UB) (v : Value) (N : Int) (w : World) (h : UAt w u v N QN1) (hN : N < 4611686018427387904) :
    Calls Try.prog 10 #[.pointer (some ⟨u.q, 0, none⟩), .int .i64 0, .int .i64 1] w (StepP u v (N + 1) QN1 (.tuple #[.agg #[.bool false, .int .i64 0, .int .i64 0, .int .i64 0], .int .i64 7]) w) := by
  have hc := urcvc u v N _ 0 1 w h hN
  rw [show (QN1 : QS).rcvS 0 1 = QN1 from by kernel_rfl, show (QN1 : QS).rcvP 0 1 = ⟨false, 0, 0, 0⟩ from by kernel_rfl, show (QN1 : QS).askE 0 1 0 false = 7 from by kernel_rfl] at hc
  exact hc
theorem nst_q4 (u : UB) (v : Value) (N : Int) (w : World) (h : UAt w u v N QN1) (hN : N < 4611686018427387904) :
    Calls Try.prog 10 #[.pointer (some ⟨u.q, 0, none⟩), .int .i64 16, .int .i64 1] w (StepP u v (N + 1) QN1 (.tuple #[.agg #[.bool false, .int .i64 0, .int .i64 0, .int .i64 0], .int .i64 2]) w) := by
  have hc := urcvc u v N _ 16 1 w h hN
  rw [show (QN1 : QS).rcvS 16 1 = QN1 from by kernel_rfl, show (QN1 : QS).rcvP 16 1 = ⟨false, 0, 0, 0⟩ from by kernel_rfl, show (QN1 : QS).askE 16 1 0 false = 2 from by kernel_rfl] at hc
  exact hc
theorem nst_q5 (u : UB) (v : Value) (N : Int) (w : World) (h : UAt w u v N QN1) (hN : N < 4611686018427387904) :
    Calls Try.prog 10 #[.pointer (some ⟨u.q, 0, none⟩), .int .i64 1, .int .i64 0] w (StepP u v (N + 1) QN1 (.tuple #[.agg #[.bool false, .int .i64 0, .int .i64 0, .int .i64 0], .int .i64 2]) w) := by
  have hc := urcvc u v N _ 1 0 w h hN
  rw [show (QN1 : QS).rcvS 1 0 = QN1 from by kernel_rfl, show (QN1 : QS).rcvP 1 0 = ⟨false, 0, 0, 0⟩ from by kernel_rfl, show (QN1 : QS).askE 1 0 0 false = 2 from by kernel_rfl] at hc
  exact hc
theorem nst_q6 (u : UB) (v : Value) (N : Int) (w : World) (h : UAt w u v N QN1) (hN : N < 4611686018427387904) :
    Calls Try.prog 8 #[.pointer (some ⟨u.q, 0, none⟩), .int .i64 1, .int .i64 1, .agg #[.int .i64 1, .int .i64 (-1)]] w (StepP u v (N + 1) QN1 (.tuple #[.agg #[.bool false, .int .i64 0, .int .i64 0, .int .i64 0], .int .i64 2]) w) := by
  have hc := usendc u v N _ 1 1 (1, (-1)) w h hN
  rw [show (QN1 : QS).sendS 1 1 (1, (-1)) = QN1 from by kernel_rfl, show (QN1 : QS).sendP 1 1 (1, (-1)) = ⟨false, 0, 0, 0⟩ from by kernel_rfl, show (QN1 : QS).askE 1 1 (-1) false = 2 from by kernel_rfl] at hc
  exact hc
theorem nst_q7 (u : UB) (v : Value) (N : Int) (w : World) (h : UAt w u v N QN1) :
    Calls Try.prog 11 #[.pointer (some ⟨u.q, 0, none⟩), .int .i64 1] w (StepP u v (N + 1) QN1 (.int .i64 6) w) := by
  have hc := uleavec u v N _ 1 w h
  rw [show (QN1 : QS).lvS 1 = QN1 from by kernel_rfl, show (QN1 : QS).askE 1 1 0 true = 6 from by kernel_rfl] at hc
  exact hc
theorem nst_q8 (u : UB) (v : Value) (N : Int) (w : World) (h : UAt w u v N QN1) :
    Calls Try.prog 12 #[.pointer (some ⟨u.q, 0, none⟩), .int .i64 0, .int .i64 32] w (StepP u v (N + 1) QN1 (.int .i64 2) w) := by
  have hc := uchc u v N _ 0 32 w h
  rw [show (QN1 : QS).chS 0 32 = QN1 from by kernel_rfl, show (QN1 : QS).askE 0 32 0 true = 2 from by kernel_rfl] at hc
  exact hc
theorem nst_q9 (u : UB) (v : Value) (N : Int) (w : World) (h : UAt w u v N QN1) :
    Calls Try.prog 11 #[.pointer (some ⟨u.q, 0, none⟩), .int .i64 (-1)] w (StepP u v (N + 1) QN1 (.int .i64 2) w) := by
  have hc := uleavec u v N _ (-1) w h
  rw [show (QN1 : QS).lvS (-1) = QN1 from by kernel_rfl, show (QN1 : QS).askE (-1) 1 0 true = 2 from by kernel_rfl] at hc
  exact hc
theorem nst_x1 (u : UB) (v : Value) (N : Int) (w : World) (h : UAt w u v N ⟨1, [], [], [], KM0⟩) (hN : N < 4611686018427387904) :
    Calls Try.prog 8 #[.pointer (some ⟨u.q, 0, none⟩), .int .i64 0, .int .i64 1, .agg #[.int .i64 1, .int .i64 1]] w (StepP u v (N + 1) nX1 (.tuple #[.agg #[.bool true, .int .i64 1, .int .i64 1, .int .i64 (-1)], .int .i64 0]) w) := by
  have hc := usendc u v N _ 0 1 (1, 1) w h hN
  rw [show (⟨1, [], [], [], KM0⟩ : QS).sendS 0 1 (1, 1) = nX1 from by kernel_rfl, show (⟨1, [], [], [], KM0⟩ : QS).sendP 0 1 (1, 1) = ⟨true, 1, 1, -1⟩ from by kernel_rfl, show (⟨1, [], [], [], KM0⟩ : QS).askE 0 1 1 false = 0 from by kernel_rfl] at hc
  exact hc
theorem nst_x2 (u : UB) (v : Value) (N : Int) (w : World) (h : UAt w u v N nX1) (hN : N < 4611686018427387904) :
    Calls Try.prog 8 #[.pointer (some ⟨u.q, 0, none⟩), .int .i64 1, .int .i64 5, .agg #[.int .i64 2, .int .i64 2]] w (StepP u v (N + 1) (nX2 2) (.tuple #[.agg #[.bool false, .int .i64 2, .int .i64 2, .int .i64 (-1)], .int .i64 0]) w) := by
  have hc := usendc u v N _ 1 5 (2, 2) w h hN
  rw [show (nX1 : QS).sendS 1 5 (2, 2) = (nX2 2) from by kernel_rfl, show (nX1 : QS).sendP 1 5 (2, 2) = ⟨false, 2, 2, -1⟩ from by kernel_rfl, show (nX1 : QS).askE 1 5 2 false = 0 from by kernel_rfl] at hc
  exact hc
theorem nst_y2 (u : UB) (v : Value) (N : Int) (w : World) (h : UAt w u v N nX1) (hN : N < 4611686018427387904) :
    Calls Try.prog 8 #[.pointer (some ⟨u.q, 0, none⟩), .int .i64 1, .int .i64 5, .agg #[.int .i64 3, .int .i64 2]] w (StepP u v (N + 1) (nX2 3) (.tuple #[.agg #[.bool false, .int .i64 3, .int .i64 2, .int .i64 (-1)], .int .i64 0]) w) := by
  have hc := usendc u v N _ 1 5 (3, 2) w h hN
  rw [show (nX1 : QS).sendS 1 5 (3, 2) = (nX2 3) from by kernel_rfl, show (nX1 : QS).sendP 1 5 (3, 2) = ⟨false, 3, 2, -1⟩ from by kernel_rfl, show (nX1 : QS).askE 1 5 2 false = 0 from by kernel_rfl] at hc
  exact hc
theorem nst_x3 (u : UB) (v : Value) (N : Int) (w : World) (h : UAt w u v N (nX2 2)) :
    Calls Try.prog 11 #[.pointer (some ⟨u.q, 0, none⟩), .int .i64 1] w (StepP u v (N + 1) nX3 (.int .i64 0) w) := by
  have hc := uleavec u v N _ 1 w h
  rw [show ((nX2 2) : QS).lvS 1 = nX3 from by kernel_rfl, show ((nX2 2) : QS).askE 1 1 0 true = 0 from by kernel_rfl] at hc
  exact hc

set_option maxRecDepth 100000 in
set_option maxHeartbeats 16000000 in
theorem queueNil_any (w : World) : Calls Try.prog 4 #[] w fun e w' => e = .returned (.bool true) ∧ Chg [] w w' := by
  go_enter Try.func4, Try.ntmps4
  go_wp2_with fail
  refine (unewc 32 w rfl).mono ?_
  rintro e w0 ⟨u, rfl, hg, hU, hC⟩
  rw [s32_0] at hU
  have HK0 := Lib.hid (show KQ w w0 u (.slice none 0 0) 0 _ [] from ⟨hU, hC, fun k hk => by
    rcases List.mem_append.1 hk with h1 | h1
    · exact hg k h1
    · simp [Value.ownBlock] at h1, by simp⟩)
  clear hg hU hC
  go_wp2
  go_loopw [3] (fun i wr => ∃ (k : Nat) (v : Value), k ≤ 32 ∧ i = .int .i64 k ∧ KQ w wr u v k (s32 k) []) (fun i _ => 32 - (intOf i).toNat)
  case atStart => exact ⟨0, _, by omega, rfl, HK0.out⟩
  case round =>
    obtain ⟨k, v, hk, rfl, hF⟩ := hrel
    have HF := Lib.hid hF
    have HKk := Lib.hid hk
    clear hF HK0 hk
    by_cases hlt : k < 32
    · have q1 : decide ((k : Int) < 32) = true := decide_eq_true (by omega)
      have HLt := Lib.hid hlt
      have hov : (k : Int) ≤ 40000 := by omega
      clear hlt
      go_wp2_with fail
      refine (umsgc k k wr).mono ?_
      rintro e wm ⟨rfl, hC⟩
      replace HF := Lib.hid (HF.out.calm hC)
      clear hC
      go_wp2_with fail
      have hs := usendc u v k (s32 k) 15 31 (k, k) wm HF.out.at_ (by have := HLt.out; omega)
      rw [(s32_send HLt.out).2.2, (s32_send HLt.out).2.1, show (s32 k).askE 15 31 ((k : Int), (k : Int)).2 false = 0 from (s32_send HLt.out).1] at hs
      refine hs.mono ?_
      intro e w2 hS
      obtain ⟨v2, rfl, hK⟩ := HF.out.step hS
      replace HF := Lib.hid (hK.box ⟨true, k, k, -1⟩)
      clear hS hK hs
      unfold pdV
      go_upto_region 6 with fail
      have z0 := cellB (HF.out.x w2.heap.size ⟨true, k, k, -1⟩ (by simp)).1 (i := 0) rfl
      go_wp2_with (go_at_call 7; refine (unumc _ _).mono ?_; rintro e w' ⟨rfl, rfl⟩)
      go_roundw
      case rel => exact ⟨k + 1, v2, by have := HLt.out; omega, by go_num, by have h1 := HF.out; exact ⟨by rw [show ((k + 1 : Nat) : Int) = (k : Int) + 1 by omega]; exact h1.at_, h1.c, h1.g, by simp⟩⟩
      case measure => have := HLt.out; simp [intOf]; omega
    · have hk2 : k = 32 := by have := HKk.out; omega
      have q1 : decide ((k : Int) < 32) = false := decide_eq_false (by omega)
      have hF := HF.out
      rw [hk2] at hF
      obtain ⟨w0, hw0⟩ : ∃ x, x = wr := ⟨_, rfl⟩
      rw [← hw0] at hF
      rw [← hw0]
      have HK := Lib.hid (show KQ w w0 u v 32 (s32 32) [] from hF)
      clear hlt hk2 hF HF hw0 HKk
      go_wp2_with fail
      refine (umsgc 1 31 w0).mono ?_
      rintro e wm_q1 ⟨rfl, hC⟩
      replace HK := Lib.hid (HK.out.calm hC)
      clear hC
      unfold msgV
      go_wp2_with fail
      refine (nst_q1 u _ _ wm_q1 HK.out.at_ (by decide)).mono ?_
      intro e w_q1 hS
      obtain ⟨v_q1, rfl, hK⟩ := HK.out.step hS
      replace HK := Lib.hid hK
      clear hS hK
      replace HK := Lib.hid (HK.out.box ⟨false, 1, 31, -1⟩)
      go_wp2_with fail
      refine (umsgc 1 0 (w_q1.alloc (.cells #[.bool false, .int .i64 1, .int .i64 31, .int .i64 (-1)] 35 (0, 0)))).mono ?_
      rintro e wm_q2 ⟨rfl, hC⟩
      replace HK := Lib.hid (HK.out.calm hC)
      clear hC
      unfold msgV
      go_wp2_with fail
      refine (nst_q2 u _ _ wm_q2 HK.out.at_ (by decide)).mono ?_
      intro e w_q2 hS
      obtain ⟨v_q2, rfl, hK⟩ := HK.out.step hS
      replace HK := Lib.hid hK
      clear hS hK
      replace HK := Lib.hid (HK.out.box ⟨false, 0, 0, 0⟩)
      go_wp2_with fail
      refine (nst_q3 u _ _ (w_q2.alloc (.cells #[.bool false, .int .i64 0, .int .i64 0, .int .i64 0] 35 (0, 0))) HK.out.at_ (by decide)).mono ?_
      intro e w_q3 hS
      obtain ⟨v_q3, rfl, hK⟩ := HK.out.step hS
      replace HK := Lib.hid hK
      clear hS hK
      replace HK := Lib.hid (HK.out.box ⟨false, 0, 0, 0⟩)
      go_wp2_with fail
      refine (nst_q4 u _ _ (w_q3.alloc (.cells #[.bool false, .int .i64 0, .int .i64 0, .int .i64 0] 35 (0, 0))) HK.out.at_ (by decide)).mono ?_
      intro e w_q4 hS
      obtain ⟨v_q4, rfl, hK⟩ := HK.out.step hS
      replace HK := Lib.hid hK
      clear hS hK
      replace HK := Lib.hid (HK.out.box ⟨false, 0, 0, 0⟩)
      go_wp2_with fail
      refine (nst_q5 u _ _ (w_q4.alloc (.cells #[.bool false, .int .i64 0, .int .i64 0, .int .i64 0] 35 (0, 0))) HK.out.at_ (by decide)).mono ?_
      intro e w_q5 hS
      obtain ⟨v_q5, rfl, hK⟩ := HK.out.step hS
      replace HK := Lib.hid hK
      clear hS hK
      replace HK := Lib.hid (HK.out.box ⟨false, 0, 0, 0⟩)
      go_wp2_with fail
      refine (umsgc 1 (-1) (w_q5.alloc (.cells #[.bool false, .int .i64 0, .int .i64 0, .int .i64 0] 35 (0, 0)))).mono ?_
      rintro e wm_q6 ⟨rfl, hC⟩
      replace HK := Lib.hid (HK.out.calm hC)
      clear hC
      unfold msgV
      go_wp2_with fail
      refine (nst_q6 u _ _ wm_q6 HK.out.at_ (by decide)).mono ?_
      intro e w_q6 hS
      obtain ⟨v_q6, rfl, hK⟩ := HK.out.step hS
      replace HK := Lib.hid hK
      clear hS hK
      replace HK := Lib.hid (HK.out.box ⟨false, 0, 0, 0⟩)
      go_wp2_with fail
      refine (nst_q7 u _ _ (w_q6.alloc (.cells #[.bool false, .int .i64 0, .int .i64 0, .int .i64 0] 35 (0, 0))) HK.out.at_).mono ?_
      intro e w_q7 hS
      obtain ⟨v_q7, rfl, hK⟩ := HK.out.step hS
      replace HK := Lib.hid hK
      clear hS hK
      go_wp2_with fail
      refine (nst_q8 u _ _ w_q7 HK.out.at_).mono ?_
      intro e w_q8 hS
      obtain ⟨v_q8, rfl, hK⟩ := HK.out.step hS
      replace HK := Lib.hid hK
      clear hS hK
      go_wp2_with fail
      refine (nst_q9 u _ _ w_q8 HK.out.at_).mono ?_
      intro e w_q9 hS
      obtain ⟨v_q9, rfl, hK⟩ := HK.out.step hS
      replace HK := Lib.hid hK
      clear hS hK
      go_wp2_with fail
      refine (unewc 1 w_q9 rfl).mono ?_
      rintro e w_x0 ⟨ux, rfl, hg, hU, hC⟩
      rw [qnew1] at hU
      have HX := Lib.hid (show KQ w_q9 w_x0 ux (.slice none 0 0) 0 _ [] from ⟨hU, hC, fun k hk => by
        rcases List.mem_append.1 hk with h1 | h1
        · exact hg k h1
        · simp [Value.ownBlock] at h1, by simp⟩)
      clear hg hU hC
      go_wp2_with fail
      refine (umsgc 1 1 w_x0).mono ?_
      rintro e wm_x1 ⟨rfl, hC⟩
      replace HX := Lib.hid (HX.out.calm hC)
      clear hC
      unfold msgV
      go_wp2_with fail
      refine (nst_x1 ux _ _ wm_x1 HX.out.at_ (by decide)).mono ?_
      intro e w_x1 hS
      obtain ⟨vx1, rfl, hK⟩ := HX.out.step hS
      replace HX := Lib.hid hK
      clear hS hK
      go_wp2_with fail
      refine (ucopyc ux _ _ _ w_x1 HX.out.at_).mono ?_
      rintro e w_y0 ⟨uy, vy, rfl, hg, hU, hC⟩
      have HY := Lib.hid (show KQ w_q9 w_y0 uy vy _ _ [] from ⟨hU, HX.out.c.trans hC, fun k hk => Nat.le_trans HX.out.c.size (hg k hk), by simp⟩)
      have HXY := Lib.hid (show ∀ k ∈ blkU ux vx1, k ∉ blkU uy vy from fun k hk hm => by have h1 := HX.out.at_.lt k hk; have h2 := hg k hm; omega)
      replace HX := Lib.hid (HX.out.calm hC)
      clear hg hU hC
      go_wp2_with fail
      refine (ucopyc ux _ _ _ w_y0 HX.out.at_).mono ?_
      rintro e w_z0 ⟨uz, vz, rfl, hg, hU, hC⟩
      have HZ := Lib.hid (show KQ w_q9 w_z0 uz vz _ _ [] from ⟨hU, HX.out.c.trans hC, fun k hk => Nat.le_trans HX.out.c.size (hg k hk), by simp⟩)
      have HXZ := Lib.hid (show ∀ k ∈ blkU ux vx1, k ∉ blkU uz vz from fun k hk hm => by have h1 := HX.out.at_.lt k hk; have h2 := hg k hm; omega)
      have HYZ := Lib.hid (show ∀ k ∈ blkU uy vy, k ∉ blkU uz vz from fun k hk hm => by have h1 := HY.out.at_.lt k hk; have h2 := hg k hm; omega)
      replace HX := Lib.hid (HX.out.calm hC)
      replace HY := Lib.hid (HY.out.calm hC)
      clear hg hU hC
      go_wp2_with fail
      refine (umsgc 2 2 w_z0).mono ?_
      rintro e wm_x2 ⟨rfl, hC⟩
      replace HX := Lib.hid (HX.out.calm hC)
      replace HY := Lib.hid (HY.out.calm hC)
      replace HZ := Lib.hid (HZ.out.calm hC)
      clear hC
      unfold msgV
      go_wp2_with fail
      refine (nst_x2 ux _ _ wm_x2 HX.out.at_ (by decide)).mono ?_
      intro e w_x2 hS
      obtain ⟨vx2, rfl, hK, hO⟩ := HX.out.aside hS
      have hy := hO uy vy _ _ HY.out HXY.out
      have hz := hO uz vz _ _ HZ.out HXZ.out
      replace HX := Lib.hid hK
      replace HY := Lib.hid hy.1
      replace HXY := Lib.hid (show ∀ k ∈ blkU uy vy, k ∉ blkU ux vx2 from fun k hk hm => hy.2 k hm hk)
      replace HZ := Lib.hid hz.1
      replace HXZ := Lib.hid hz.2
      clear hS hK hO hy hz
      go_wp2_with fail
      refine (umsgc 3 2 w_x2).mono ?_
      rintro e wm_y2 ⟨rfl, hC⟩
      replace HX := Lib.hid (HX.out.calm hC)
      replace HY := Lib.hid (HY.out.calm hC)
      replace HZ := Lib.hid (HZ.out.calm hC)
      clear hC
      unfold msgV
      go_wp2_with fail
      refine (nst_y2 uy _ _ wm_y2 HY.out.at_ (by decide)).mono ?_
      intro e w_y2 hS
      obtain ⟨vy2, rfl, hK, hO⟩ := HY.out.aside hS
      have hy := hO ux vx2 _ _ HX.out HXY.out
      have hz := hO uz vz _ _ HZ.out HYZ.out
      replace HX := Lib.hid hy.1
      replace HY := Lib.hid hK
      replace HZ := Lib.hid hz.1
      clear hS hK hO hy hz
      go_wp2_with fail
      have hs := usamec ux _ _ _ uy _ _ _ w_y2 HX.out.at_ HY.out.at_
      rw [n_eqv1] at hs
      refine hs.mono ?_
      rintro e w_s1 ⟨rfl, hC⟩
      replace HX := Lib.hid (HX.out.calm hC)
      replace HZ := Lib.hid (HZ.out.calm hC)
      clear hs hC HY
      go_wp2_with fail
      refine (nst_x3 ux _ _ w_s1 HX.out.at_).mono ?_
      intro e w_x3 hS
      obtain ⟨vx3, rfl, hK, hO⟩ := HX.out.aside hS
      have hz := hO uz vz _ _ HZ.out HXZ.out
      replace HX := Lib.hid hK
      replace HZ := Lib.hid hz.1
      clear hS hK hO hz
      go_wp2_with fail
      have hs := usamec ux _ _ _ uz _ _ _ w_x3 HX.out.at_ HZ.out.at_
      rw [n_eqv2] at hs
      refine hs.mono ?_
      rintro e w_s2 ⟨rfl, hC⟩
      replace HK := Lib.hid (HK.out.calm (HX.out.calm hC).c)
      clear hs hC HX HZ HXY HXZ HYZ
      have z0 := cellB (HK.out.x w_q1.heap.size ⟨false, 1, 31, -1⟩ (by simp)).1 (i := 0) rfl
      have HF := Lib.hid (show Calls Try.prog 19 #[.pointer (some ⟨u.q, 0, none⟩)] w_s2 fun e w' => e = .returned (.bool true) ∧ Chg [] w_s2 w' from by
        have h1 := ufullc u _ _ _ w_s2 HK.out.at_
        rw [n_full] at h1
        exact h1)
      go_wp2_with (go_at_call 7; refine (unumc _ _).mono ?_; rintro e w' ⟨rfl, rfl⟩)
      refine HF.out.mono ?_
      rintro e w_f ⟨rfl, hC⟩
      replace HK := Lib.hid (HK.out.calm hC)
      clear hC z0 HF
      go_wp2_with (go_at_call 7; refine (unumc _ _).mono ?_; rintro e w' ⟨rfl, rfl⟩)
      refine (nothing18 none w_f (.inl rfl)).mono ?_
      rintro e w_g ⟨rfl, hC⟩
      replace HK := Lib.hid (HK.out.calm hC)
      clear hC
      go_wp2_with fail
      refine (nothing18 (some ⟨w_g.heap.size, 0, none⟩) _ (.inr ⟨w_g.heap.size, rfl, heap_alloc_eq w_g (.cells #[.int .i64 0, .slice none 0 0, .pointer none, .pointer none, .map none] 56)⟩)).mono ?_
      rintro e w_h ⟨rfl, hC⟩
      replace HK := Lib.hid (HK.out.calm (((Chg.refl [] w_g).alloc (.cells #[.int .i64 0, .slice none 0 0, .pointer none, .pointer none, .map none] 56)).trans hC))
      clear hC
      go_wp2_with fail
      refine (nsamec2 u _ _ _ w_h HK.out.at_).mono ?_
      rintro e w_i ⟨rfl, hC⟩
      replace HK := Lib.hid (HK.out.calm hC)
      clear hC
      go_wp2_with fail
      refine (known18 w_i).mono ?_
      rintro e w_j ⟨rfl, hC⟩
      replace HK := Lib.hid (HK.out.calm hC)
      clear hC
      go_wp2
      go_ret
      exact ⟨rfl, HK.out.c⟩

end Go.Proofs.Ytiiafhlckmkcnaa
