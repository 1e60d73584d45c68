
/- metronomelaw18.known answers true (written by wip/known18.py). -/
import Derived.Test.YtiiafhlckmkcnaaGreatUr
namespace Go.Proofs.YtiiafhlckmkcnaaGreat
open Go.RowKit

def KM0 : WL := [(0, 0), (0, 0), (0, 0), (0, 0), (0, 0), (0, 0), (0, 0), (0, 0), (0, 0), (0, 0), (0, 0), (0, 0), (0, 0), (0, 0), (0, 0), (0, 0)]
def KM1 : WL := [(0, 0), (0, 0), (0, 0), (0, 0), (8, 31), (0, 0), (0, 0), (0, 0), (0, 0), (0, 0), (0, 0), (0, 0), (0, 0), (0, 0), (0, 0), (0, 0)]
theorem qnew1 : qnew 1 = ⟨1, [], [], [], KM0⟩ := by kernel_rfl
theorem kst0 (u : UB) (v : Value) (N : Int) (w : World) (h : UAt w u v N ⟨1, [], [], [], KM0⟩) (hN : N < 4611686018427387904) :
    Calls Tryz.prog 16 #[.pointer (some ⟨u.q, 0, none⟩), .int .i64 1, .int .i64 5] w (StepP u v (N + 1) ⟨1, [], [], [(1, 5)], KM0⟩ (.tuple #[.agg #[.bool false, .int .i64 0, .int .i64 0, .int .i64 (-1)], .int .i64 0]) w) := by
  have hc := urcvc u v N _ 1 5 w h hN
  rw [show (⟨1, [], [], [], KM0⟩ : QS).rcvS 1 5 = ⟨1, [], [], [(1, 5)], KM0⟩ from by kernel_rfl, show (⟨1, [], [], [], KM0⟩ : QS).rcvP 1 5 = ⟨false, 0, 0, -1⟩ from by kernel_rfl, show (⟨1, [], [], [], KM0⟩ : QS).askE 1 5 0 false = 0 from by kernel_rfl] at hc
  exact hc
theorem kst1 (u : UB) (v : Value) (N : Int) (w : World) (h : UAt w u v N ⟨1, [], [], [(1, 5)], KM0⟩) (hN : N < 4611686018427387904) :
    Calls Tryz.prog 16 #[.pointer (some ⟨u.q, 0, none⟩), .int .i64 2, .int .i64 9] w (StepP u v (N + 1) ⟨1, [], [], [(1, 5), (2, 9)], KM0⟩ (.tuple #[.agg #[.bool false, .int .i64 0, .int .i64 0, .int .i64 (-1)], .int .i64 0]) w) := by
  have hc := urcvc u v N _ 2 9 w h hN
  rw [show (⟨1, [], [], [(1, 5)], KM0⟩ : QS).rcvS 2 9 = ⟨1, [], [], [(1, 5), (2, 9)], KM0⟩ from by kernel_rfl, show (⟨1, [], [], [(1, 5)], KM0⟩ : QS).rcvP 2 9 = ⟨false, 0, 0, -1⟩ from by kernel_rfl, show (⟨1, [], [], [(1, 5)], KM0⟩ : QS).askE 2 9 0 false = 0 from by kernel_rfl] at hc
  exact hc
theorem kst2 (u : UB) (v : Value) (N : Int) (w : World) (h : UAt w u v N ⟨1, [], [], [(1, 5), (2, 9)], KM0⟩) (hN : N < 4611686018427387904) :
    Calls Tryz.prog 14 #[.pointer (some ⟨u.q, 0, none⟩), .int .i64 3, .int .i64 1, .agg #[.int .i64 7, .int .i64 0]] w (StepP u v (N + 1) ⟨1, [], [], [(1, 5)], KM0⟩ (.tuple #[.agg #[.bool true, .int .i64 7, .int .i64 0, .int .i64 2], .int .i64 0]) w) := by
  have hc := usendc u v N _ 3 1 (7, 0) w h hN
  rw [show (⟨1, [], [], [(1, 5), (2, 9)], KM0⟩ : QS).sendS 3 1 (7, 0) = ⟨1, [], [], [(1, 5)], KM0⟩ from by kernel_rfl, show (⟨1, [], [], [(1, 5), (2, 9)], KM0⟩ : QS).sendP 3 1 (7, 0) = ⟨true, 7, 0, 2⟩ from by kernel_rfl, show (⟨1, [], [], [(1, 5), (2, 9)], KM0⟩ : QS).askE 3 1 0 false = 0 from by kernel_rfl] at hc
  exact hc
theorem kst3 (u : UB) (v : Value) (N : Int) (w : World) (h : UAt w u v N ⟨1, [], [], [(1, 5)], KM0⟩) :
    Calls Tryz.prog 18 #[.pointer (some ⟨u.q, 0, none⟩), .int .i64 1] w (StepP u v (N + 1) ⟨1, [], [], [], KM0⟩ (.int .i64 0) w) := by
  have hc := uleavec u v N _ 1 w h
  rw [show (⟨1, [], [], [(1, 5)], KM0⟩ : QS).lvS 1 = ⟨1, [], [], [], KM0⟩ from by kernel_rfl, show (⟨1, [], [], [(1, 5)], KM0⟩ : QS).askE 1 1 0 true = 0 from by kernel_rfl] at hc
  exact hc
theorem kst4 (u : UB) (v : Value) (N : Int) (w : World) (h : UAt w u v N ⟨1, [], [], [], KM0⟩) (hN : N < 4611686018427387904) :
    Calls Tryz.prog 14 #[.pointer (some ⟨u.q, 0, none⟩), .int .i64 3, .int .i64 1, .agg #[.int .i64 7, .int .i64 0]] w (StepP u v (N + 1) ⟨1, [(7, 0)], [], [], KM0⟩ (.tuple #[.agg #[.bool true, .int .i64 7, .int .i64 0, .int .i64 (-1)], .int .i64 0]) w) := by
  have hc := usendc u v N _ 3 1 (7, 0) w h hN
  rw [show (⟨1, [], [], [], KM0⟩ : QS).sendS 3 1 (7, 0) = ⟨1, [(7, 0)], [], [], KM0⟩ from by kernel_rfl, show (⟨1, [], [], [], KM0⟩ : QS).sendP 3 1 (7, 0) = ⟨true, 7, 0, -1⟩ from by kernel_rfl, show (⟨1, [], [], [], KM0⟩ : QS).askE 3 1 0 false = 0 from by kernel_rfl] at hc
  exact hc
theorem kst5 (u : UB) (v : Value) (N : Int) (w : World) (h : UAt w u v N ⟨1, [(7, 0)], [], [], KM0⟩) (hN : N < 4611686018427387904) :
    Calls Tryz.prog 14 #[.pointer (some ⟨u.q, 0, none⟩), .int .i64 4, .int .i64 1, .agg #[.int .i64 8, .int .i64 31]] w (StepP u v (N + 1) ⟨1, [(7, 0)], [(4, 1)], [], KM1⟩ (.tuple #[.agg #[.bool false, .int .i64 8, .int .i64 31, .int .i64 (-1)], .int .i64 0]) w) := by
  have hc := usendc u v N _ 4 1 (8, 31) w h hN
  rw [show (⟨1, [(7, 0)], [], [], KM0⟩ : QS).sendS 4 1 (8, 31) = ⟨1, [(7, 0)], [(4, 1)], [], KM1⟩ from by kernel_rfl, show (⟨1, [(7, 0)], [], [], KM0⟩ : QS).sendP 4 1 (8, 31) = ⟨false, 8, 31, -1⟩ from by kernel_rfl, show (⟨1, [(7, 0)], [], [], KM0⟩ : QS).askE 4 1 31 false = 0 from by kernel_rfl] at hc
  exact hc
theorem kst6 (u : UB) (v : Value) (N : Int) (w : World) (h : UAt w u v N ⟨1, [(7, 0)], [(4, 1)], [], KM1⟩) (hN : N < 4611686018427387904) :
    Calls Tryz.prog 14 #[.pointer (some ⟨u.q, 0, none⟩), .int .i64 4, .int .i64 1, .agg #[.int .i64 8, .int .i64 0]] w (StepP u v (N + 1) ⟨1, [(7, 0)], [(4, 1)], [], KM1⟩ (.tuple #[.agg #[.bool false, .int .i64 0, .int .i64 0, .int .i64 0], .int .i64 7]) w) := by
  have hc := usendc u v N _ 4 1 (8, 0) w h hN
  rw [show (⟨1, [(7, 0)], [(4, 1)], [], KM1⟩ : QS).sendS 4 1 (8, 0) = ⟨1, [(7, 0)], [(4, 1)], [], KM1⟩ from by kernel_rfl, show (⟨1, [(7, 0)], [(4, 1)], [], KM1⟩ : QS).sendP 4 1 (8, 0) = ⟨false, 0, 0, 0⟩ from by kernel_rfl, show (⟨1, [(7, 0)], [(4, 1)], [], KM1⟩ : QS).askE 4 1 0 false = 7 from by kernel_rfl] at hc
  exact hc
theorem kst7 (u : UB) (v : Value) (N : Int) (w : World) (h : UAt w u v N ⟨1, [(7, 0)], [(4, 1)], [], KM1⟩) (hN : N < 4611686018427387904) :
    Calls Tryz.prog 14 #[.pointer (some ⟨u.q, 0, none⟩), .int .i64 5, .int .i64 1, .agg #[.int .i64 9, .int .i64 32]] w (StepP u v (N + 1) ⟨1, [(7, 0)], [(4, 1)], [], KM1⟩ (.tuple #[.agg #[.bool false, .int .i64 0, .int .i64 0, .int .i64 0], .int .i64 2]) w) := by
  have hc := usendc u v N _ 5 1 (9, 32) w h hN
  rw [show (⟨1, [(7, 0)], [(4, 1)], [], KM1⟩ : QS).sendS 5 1 (9, 32) = ⟨1, [(7, 0)], [(4, 1)], [], KM1⟩ from by kernel_rfl, show (⟨1, [(7, 0)], [(4, 1)], [], KM1⟩ : QS).sendP 5 1 (9, 32) = ⟨false, 0, 0, 0⟩ from by kernel_rfl, show (⟨1, [(7, 0)], [(4, 1)], [], KM1⟩ : QS).askE 5 1 32 false = 2 from by kernel_rfl] at hc
  exact hc
theorem kst8 (u : UB) (v : Value) (N : Int) (w : World) (h : UAt w u v N ⟨1, [(7, 0)], [(4, 1)], [], KM1⟩) (hN : N < 4611686018427387904) :
    Calls Tryz.prog 16 #[.pointer (some ⟨u.q, 0, none⟩), .int .i64 1, .int .i64 5] w (StepP u v (N + 1) ⟨1, [(8, 31)], [], [], KM1⟩ (.tuple #[.agg #[.bool true, .int .i64 7, .int .i64 0, .int .i64 4], .int .i64 0]) w) := by
  have hc := urcvc u v N _ 1 5 w h hN
  rw [show (⟨1, [(7, 0)], [(4, 1)], [], KM1⟩ : QS).rcvS 1 5 = ⟨1, [(8, 31)], [], [], KM1⟩ from by kernel_rfl, show (⟨1, [(7, 0)], [(4, 1)], [], KM1⟩ : QS).rcvP 1 5 = ⟨true, 7, 0, 4⟩ from by kernel_rfl, show (⟨1, [(7, 0)], [(4, 1)], [], KM1⟩ : QS).askE 1 5 0 false = 0 from by kernel_rfl] at hc
  exact hc
theorem kst9 (u : UB) (v : Value) (N : Int) (w : World) (h : UAt w u v N ⟨1, [(8, 31)], [], [], KM1⟩) (hN : N < 4611686018427387904) :
    Calls Tryz.prog 16 #[.pointer (some ⟨u.q, 0, none⟩), .int .i64 1, .int .i64 5] w (StepP u v (N + 1) ⟨1, [], [], [], KM1⟩ (.tuple #[.agg #[.bool true, .int .i64 8, .int .i64 31, .int .i64 (-1)], .int .i64 0]) w) := by
  have hc := urcvc u v N _ 1 5 w h hN
  rw [show (⟨1, [(8, 31)], [], [], KM1⟩ : QS).rcvS 1 5 = ⟨1, [], [], [], KM1⟩ from by kernel_rfl, show (⟨1, [(8, 31)], [], [], KM1⟩ : QS).rcvP 1 5 = ⟨true, 8, 31, -1⟩ from by kernel_rfl, show (⟨1, [(8, 31)], [], [], KM1⟩ : QS).askE 1 5 0 false = 0 from by kernel_rfl] at hc
  exact hc

set_option maxRecDepth 100000 in
set_option maxHeartbeats 4000000 in
theorem known18 (w : World) : Calls Tryz.prog 10 #[] w fun e w' => e = .returned (.bool true) ∧ Chg [] w w' := by
  go_enter Tryz.func10, Tryz.ntmps10
  go_wp2_with fail
  refine (unewno 0 w rfl).mono ?_
  rintro e w' ⟨rfl, rfl⟩
  go_wp2_with fail
  refine (unewno 33 w rfl).mono ?_
  rintro e w' ⟨rfl, rfl⟩
  go_wp2_with fail
  refine (unewc 1 w rfl).mono ?_
  rintro e w0 ⟨u, rfl, hg, hU, hC⟩
  rw [qnew1] at hU
  have HK := Lib.hid (show KQ w w0 u (.slice none 0 0) 0 _ [] from ⟨hU, hC, fun k hk => by
    rcases List.mem_append.1 hk with h1 | h1
    · exact hg k h1
    · simp [Value.ownBlock] at h1, by simp⟩)
  clear hg hU hC
  go_wp2_with fail
  refine (kst0 u _ _ w0 HK.out.at_ (by decide)).mono ?_
  intro e w1 hS
  obtain ⟨v1, rfl, hK⟩ := HK.out.step hS
  replace HK := Lib.hid hK
  clear hS hK
  replace HK := Lib.hid (HK.out.box ⟨false, 0, 0, -1⟩)
  go_wp2_with fail
  refine (kst1 u _ _ (w1.alloc (.cells #[.bool false, .int .i64 0, .int .i64 0, .int .i64 (-1)] 58 (0, 0))) HK.out.at_ (by decide)).mono ?_
  intro e w2 hS
  obtain ⟨v2, rfl, hK⟩ := HK.out.step hS
  replace HK := Lib.hid hK
  clear hS hK
  go_wp2_with fail
  refine (umsgc 7 0 (w2.alloc (.cells #[.bool false, .int .i64 0, .int .i64 0, .int .i64 (-1)] 58 (0, 0)))).mono ?_
  rintro e wm2 ⟨rfl, hC⟩
  replace HK := Lib.hid ((HK.out.box ⟨false, 0, 0, -1⟩).calm hC)
  clear hC
  unfold msgV
  go_wp2_with fail
  refine (kst2 u _ _ wm2 HK.out.at_ (by decide)).mono ?_
  intro e w3 hS
  obtain ⟨v3, rfl, hK⟩ := HK.out.step hS
  replace HK := Lib.hid hK
  clear hS hK
  replace HK := Lib.hid (HK.out.box ⟨true, 7, 0, 2⟩)
  go_wp2_with fail
  refine (kst3 u _ _ (w3.alloc (.cells #[.bool true, .int .i64 7, .int .i64 0, .int .i64 2] 58 (0, 0))) HK.out.at_).mono ?_
  intro e w4 hS
  obtain ⟨v4, rfl, hK⟩ := HK.out.step hS
  replace HK := Lib.hid hK
  clear hS hK
  go_wp2_with fail
  refine (umsgc 7 0 w4).mono ?_
  rintro e wm4 ⟨rfl, hC⟩
  replace HK := Lib.hid (HK.out.calm hC)
  clear hC
  unfold msgV
  go_wp2_with fail
  refine (kst4 u _ _ wm4 HK.out.at_ (by decide)).mono ?_
  intro e w5 hS
  obtain ⟨v5, rfl, hK⟩ := HK.out.step hS
  replace HK := Lib.hid hK
  clear hS hK
  go_wp2_with fail
  refine (umsgc 8 31 (w5.alloc (.cells #[.bool true, .int .i64 7, .int .i64 0, .int .i64 (-1)] 58 (0, 0)))).mono ?_
  rintro e wm5 ⟨rfl, hC⟩
  replace HK := Lib.hid ((HK.out.box ⟨true, 7, 0, -1⟩).calm hC)
  clear hC
  unfold msgV
  go_wp2_with fail
  refine (kst5 u _ _ wm5 HK.out.at_ (by decide)).mono ?_
  intro e w6 hS
  obtain ⟨v6, rfl, hK⟩ := HK.out.step hS
  replace HK := Lib.hid hK
  clear hS hK
  go_wp2_with fail
  refine (umsgc 8 0 (w6.alloc (.cells #[.bool false, .int .i64 8, .int .i64 31, .int .i64 (-1)] 58 (0, 0)))).mono ?_
  rintro e wm6 ⟨rfl, hC⟩
  replace HK := Lib.hid ((HK.out.box ⟨false, 8, 31, -1⟩).calm hC)
  clear hC
  unfold msgV
  go_wp2_with fail
  refine (kst6 u _ _ wm6 HK.out.at_ (by decide)).mono ?_
  intro e w7 hS
  obtain ⟨v7, rfl, hK⟩ := HK.out.step hS
  replace HK := Lib.hid hK
  clear hS hK
  go_wp2_with fail
  refine (umsgc 9 32 (w7.alloc (.cells #[.bool false, .int .i64 0, .int .i64 0, .int .i64 0] 58 (0, 0)))).mono ?_
  rintro e wm7 ⟨rfl, hC⟩
  replace HK := Lib.hid ((HK.out.box ⟨false, 0, 0, 0⟩).calm hC)
  clear hC
  unfold msgV
  go_wp2_with fail
  refine (kst7 u _ _ wm7 HK.out.at_ (by decide)).mono ?_
  intro e w8 hS
  obtain ⟨v8, rfl, hK⟩ := HK.out.step hS
  replace HK := Lib.hid hK
  clear hS hK
  replace HK := Lib.hid (HK.out.box ⟨false, 0, 0, 0⟩)
  go_wp2_with fail
  refine (kst8 u _ _ (w8.alloc (.cells #[.bool false, .int .i64 0, .int .i64 0, .int .i64 0] 58 (0, 0))) HK.out.at_ (by decide)).mono ?_
  intro e w9 hS
  obtain ⟨v9, rfl, hK⟩ := HK.out.step hS
  replace HK := Lib.hid hK
  clear hS hK
  replace HK := Lib.hid (HK.out.box ⟨true, 7, 0, 4⟩)
  go_wp2_with fail
  refine (kst9 u _ _ (w9.alloc (.cells #[.bool true, .int .i64 7, .int .i64 0, .int .i64 4] 58 (0, 0))) HK.out.at_ (by decide)).mono ?_
  intro e w10 hS
  obtain ⟨v10, rfl, hK⟩ := HK.out.step hS
  replace HK := Lib.hid hK
  clear hS hK
  replace HK := Lib.hid (HK.out.box ⟨true, 8, 31, -1⟩)
  obtain ⟨wf, hwf⟩ : ∃ wf, wf = (w10.alloc (.cells #[.bool true, .int .i64 8, .int .i64 31, .int .i64 (-1)] 58 (0, 0))) := ⟨_, rfl⟩
  have HKf := Lib.hid (show KQ w wf u v10 _ _ _ from hwf ▸ HK.out)
  go_upto_region 14 with fail
  rw [← hwf]
  clear hwf
  simp only [List.append_eq, List.cons_append, List.nil_append]
  have hbf := fun W : World => pBuild true 7 0 (2) W
  have hqf := fun W : World => (eqlP ⟨true, 7, 0, 2⟩ ⟨true, 7, 0, 2⟩ W).trans (by rw [PD.eqb_self])
  unfold pdV at hqf
  have hbh := fun W : World => pBuild true 7 0 (-1) W
  have hqh := fun W : World => (eqlP ⟨true, 7, 0, -1⟩ ⟨true, 7, 0, -1⟩ W).trans (by rw [PD.eqb_self])
  unfold pdV at hqh
  have hbx := fun W : World => pBuild true 7 0 (4) W
  have hqx := fun W : World => (eqlP ⟨true, 7, 0, 4⟩ ⟨true, 7, 0, 4⟩ W).trans (by rw [PD.eqb_self])
  unfold pdV at hqx
  have hby := fun W : World => pBuild true 8 31 (-1) W
  have hqy := fun W : World => (eqlP ⟨true, 8, 31, -1⟩ ⟨true, 8, 31, -1⟩ W).trans (by rw [PD.eqb_self])
  unfold pdV at hqy
  have x0 := show wf.cell? ⟨w1.heap.size, 0, none⟩ = some (.bool false) ∧ wf.cell? ⟨w1.heap.size, 3, none⟩ = some (.int .i64 (-1)) ∧ wf.cell? ⟨w2.heap.size, 0, none⟩ = some (.bool false) ∧ wf.cell? ⟨w3.heap.size, 0, none⟩ = some (.bool true) ∧ wf.cell? ⟨w3.heap.size, 1, none⟩ = some (.int .i64 7) ∧ wf.cell? ⟨w3.heap.size, 2, none⟩ = some (.int .i64 0) ∧ wf.cell? ⟨w3.heap.size, 3, none⟩ = some (.int .i64 2) ∧ wf.cell? ⟨w5.heap.size, 0, none⟩ = some (.bool true) ∧ wf.cell? ⟨w5.heap.size, 1, none⟩ = some (.int .i64 7) ∧ wf.cell? ⟨w5.heap.size, 2, none⟩ = some (.int .i64 0) ∧ wf.cell? ⟨w5.heap.size, 3, none⟩ = some (.int .i64 (-1)) ∧ wf.cell? ⟨w6.heap.size, 0, none⟩ = some (.bool false) ∧ wf.cell? ⟨w9.heap.size, 0, none⟩ = some (.bool true) ∧ wf.cell? ⟨w9.heap.size, 1, none⟩ = some (.int .i64 7) ∧ wf.cell? ⟨w9.heap.size, 2, none⟩ = some (.int .i64 0) ∧ wf.cell? ⟨w9.heap.size, 3, none⟩ = some (.int .i64 4) ∧ wf.cell? ⟨w10.heap.size, 0, none⟩ = some (.bool true) ∧ wf.cell? ⟨w10.heap.size, 1, none⟩ = some (.int .i64 8) ∧ wf.cell? ⟨w10.heap.size, 2, none⟩ = some (.int .i64 31) ∧ wf.cell? ⟨w10.heap.size, 3, none⟩ = some (.int .i64 (-1)) from ⟨cellB (HKf.out.x w1.heap.size ⟨false, 0, 0, -1⟩ (by simp)).1 (i := 0) rfl, cellB (HKf.out.x w1.heap.size ⟨false, 0, 0, -1⟩ (by simp)).1 (i := 3) rfl, cellB (HKf.out.x w2.heap.size ⟨false, 0, 0, -1⟩ (by simp)).1 (i := 0) rfl, cellB (HKf.out.x w3.heap.size ⟨true, 7, 0, 2⟩ (by simp)).1 (i := 0) rfl, cellB (HKf.out.x w3.heap.size ⟨true, 7, 0, 2⟩ (by simp)).1 (i := 1) rfl, cellB (HKf.out.x w3.heap.size ⟨true, 7, 0, 2⟩ (by simp)).1 (i := 2) rfl, cellB (HKf.out.x w3.heap.size ⟨true, 7, 0, 2⟩ (by simp)).1 (i := 3) rfl, cellB (HKf.out.x w5.heap.size ⟨true, 7, 0, -1⟩ (by simp)).1 (i := 0) rfl, cellB (HKf.out.x w5.heap.size ⟨true, 7, 0, -1⟩ (by simp)).1 (i := 1) rfl, cellB (HKf.out.x w5.heap.size ⟨true, 7, 0, -1⟩ (by simp)).1 (i := 2) rfl, cellB (HKf.out.x w5.heap.size ⟨true, 7, 0, -1⟩ (by simp)).1 (i := 3) rfl, cellB (HKf.out.x w6.heap.size ⟨false, 8, 31, -1⟩ (by simp)).1 (i := 0) rfl, cellB (HKf.out.x w9.heap.size ⟨true, 7, 0, 4⟩ (by simp)).1 (i := 0) rfl, cellB (HKf.out.x w9.heap.size ⟨true, 7, 0, 4⟩ (by simp)).1 (i := 1) rfl, cellB (HKf.out.x w9.heap.size ⟨true, 7, 0, 4⟩ (by simp)).1 (i := 2) rfl, cellB (HKf.out.x w9.heap.size ⟨true, 7, 0, 4⟩ (by simp)).1 (i := 3) rfl, cellB (HKf.out.x w10.heap.size ⟨true, 8, 31, -1⟩ (by simp)).1 (i := 0) rfl, cellB (HKf.out.x w10.heap.size ⟨true, 8, 31, -1⟩ (by simp)).1 (i := 1) rfl, cellB (HKf.out.x w10.heap.size ⟨true, 8, 31, -1⟩ (by simp)).1 (i := 2) rfl, cellB (HKf.out.x w10.heap.size ⟨true, 8, 31, -1⟩ (by simp)).1 (i := 3) rfl⟩
  have HLen := Lib.hid (show ∀ W, Chg [] wf W → Calls Tryz.prog 31 #[.pointer (some ⟨u.q, 0, none⟩)] W fun e w' => e = .returned (.int .i64 0) ∧ Chg [] W w' from fun W hW => ulenc u _ _ _ W (HKf.out.calm hW).at_)
  have HRoom := Lib.hid (show ∀ W, Chg [] wf W → Calls Tryz.prog 32 #[.pointer (some ⟨u.q, 0, none⟩)] W fun e w' => e = .returned (.int .i64 1) ∧ Chg [] W w' from fun W hW => uroomc u _ _ _ W (HKf.out.calm hW).at_)
  have HCf := Lib.hid (show Chg [] wf wf from Chg.refl _ _)
  go_region_held3 (fun w' => w'.cell? ⟨w1.heap.size, 0, none⟩ = some (.bool false) ∧ w'.cell? ⟨w1.heap.size, 3, none⟩ = some (.int .i64 (-1)) ∧ w'.cell? ⟨w2.heap.size, 0, none⟩ = some (.bool false) ∧ w'.cell? ⟨w3.heap.size, 0, none⟩ = some (.bool true) ∧ w'.cell? ⟨w3.heap.size, 1, none⟩ = some (.int .i64 7) ∧ w'.cell? ⟨w3.heap.size, 2, none⟩ = some (.int .i64 0) ∧ w'.cell? ⟨w3.heap.size, 3, none⟩ = some (.int .i64 2) ∧ w'.cell? ⟨w5.heap.size, 0, none⟩ = some (.bool true) ∧ w'.cell? ⟨w5.heap.size, 1, none⟩ = some (.int .i64 7) ∧ w'.cell? ⟨w5.heap.size, 2, none⟩ = some (.int .i64 0) ∧ w'.cell? ⟨w5.heap.size, 3, none⟩ = some (.int .i64 (-1)) ∧ w'.cell? ⟨w6.heap.size, 0, none⟩ = some (.bool false) ∧ w'.cell? ⟨w9.heap.size, 0, none⟩ = some (.bool true) ∧ w'.cell? ⟨w9.heap.size, 1, none⟩ = some (.int .i64 7) ∧ w'.cell? ⟨w9.heap.size, 2, none⟩ = some (.int .i64 0) ∧ w'.cell? ⟨w9.heap.size, 3, none⟩ = some (.int .i64 4) ∧ w'.cell? ⟨w10.heap.size, 0, none⟩ = some (.bool true) ∧ w'.cell? ⟨w10.heap.size, 1, none⟩ = some (.int .i64 8) ∧ w'.cell? ⟨w10.heap.size, 2, none⟩ = some (.int .i64 31) ∧ w'.cell? ⟨w10.heap.size, 3, none⟩ = some (.int .i64 (-1))) (first | exact x0 | exact xx)
    (first
    | (go_at_call 11; (with_reducible refine (unumc _ _).mono ?_); rintro e w' ⟨rfl, rfl⟩)
    | (go_at_call 23; (with_reducible refine (umsgc _ _ _).mono ?_); rintro e wz ⟨rfl, hC⟩; unfold msgV; replace HCf := Lib.hid (HCf.out.trans (by first | exact hC | exact ⟨hC.os, hC.tape, hC.output, hC.size, hC.block⟩)); replace HKf := Lib.hid (HKf.out.calm (by first | exact hC | exact ⟨hC.os, hC.tape, hC.output, hC.size, hC.block⟩)); clear hC; have xx := show wz.cell? ⟨w1.heap.size, 0, none⟩ = some (.bool false) ∧ wz.cell? ⟨w1.heap.size, 3, none⟩ = some (.int .i64 (-1)) ∧ wz.cell? ⟨w2.heap.size, 0, none⟩ = some (.bool false) ∧ wz.cell? ⟨w3.heap.size, 0, none⟩ = some (.bool true) ∧ wz.cell? ⟨w3.heap.size, 1, none⟩ = some (.int .i64 7) ∧ wz.cell? ⟨w3.heap.size, 2, none⟩ = some (.int .i64 0) ∧ wz.cell? ⟨w3.heap.size, 3, none⟩ = some (.int .i64 2) ∧ wz.cell? ⟨w5.heap.size, 0, none⟩ = some (.bool true) ∧ wz.cell? ⟨w5.heap.size, 1, none⟩ = some (.int .i64 7) ∧ wz.cell? ⟨w5.heap.size, 2, none⟩ = some (.int .i64 0) ∧ wz.cell? ⟨w5.heap.size, 3, none⟩ = some (.int .i64 (-1)) ∧ wz.cell? ⟨w6.heap.size, 0, none⟩ = some (.bool false) ∧ wz.cell? ⟨w9.heap.size, 0, none⟩ = some (.bool true) ∧ wz.cell? ⟨w9.heap.size, 1, none⟩ = some (.int .i64 7) ∧ wz.cell? ⟨w9.heap.size, 2, none⟩ = some (.int .i64 0) ∧ wz.cell? ⟨w9.heap.size, 3, none⟩ = some (.int .i64 4) ∧ wz.cell? ⟨w10.heap.size, 0, none⟩ = some (.bool true) ∧ wz.cell? ⟨w10.heap.size, 1, none⟩ = some (.int .i64 8) ∧ wz.cell? ⟨w10.heap.size, 2, none⟩ = some (.int .i64 31) ∧ wz.cell? ⟨w10.heap.size, 3, none⟩ = some (.int .i64 (-1)) from ⟨cellB (HKf.out.x w1.heap.size ⟨false, 0, 0, -1⟩ (by simp)).1 (i := 0) rfl, cellB (HKf.out.x w1.heap.size ⟨false, 0, 0, -1⟩ (by simp)).1 (i := 3) rfl, cellB (HKf.out.x w2.heap.size ⟨false, 0, 0, -1⟩ (by simp)).1 (i := 0) rfl, cellB (HKf.out.x w3.heap.size ⟨true, 7, 0, 2⟩ (by simp)).1 (i := 0) rfl, cellB (HKf.out.x w3.heap.size ⟨true, 7, 0, 2⟩ (by simp)).1 (i := 1) rfl, cellB (HKf.out.x w3.heap.size ⟨true, 7, 0, 2⟩ (by simp)).1 (i := 2) rfl, cellB (HKf.out.x w3.heap.size ⟨true, 7, 0, 2⟩ (by simp)).1 (i := 3) rfl, cellB (HKf.out.x w5.heap.size ⟨true, 7, 0, -1⟩ (by simp)).1 (i := 0) rfl, cellB (HKf.out.x w5.heap.size ⟨true, 7, 0, -1⟩ (by simp)).1 (i := 1) rfl, cellB (HKf.out.x w5.heap.size ⟨true, 7, 0, -1⟩ (by simp)).1 (i := 2) rfl, cellB (HKf.out.x w5.heap.size ⟨true, 7, 0, -1⟩ (by simp)).1 (i := 3) rfl, cellB (HKf.out.x w6.heap.size ⟨false, 8, 31, -1⟩ (by simp)).1 (i := 0) rfl, cellB (HKf.out.x w9.heap.size ⟨true, 7, 0, 4⟩ (by simp)).1 (i := 0) rfl, cellB (HKf.out.x w9.heap.size ⟨true, 7, 0, 4⟩ (by simp)).1 (i := 1) rfl, cellB (HKf.out.x w9.heap.size ⟨true, 7, 0, 4⟩ (by simp)).1 (i := 2) rfl, cellB (HKf.out.x w9.heap.size ⟨true, 7, 0, 4⟩ (by simp)).1 (i := 3) rfl, cellB (HKf.out.x w10.heap.size ⟨true, 8, 31, -1⟩ (by simp)).1 (i := 0) rfl, cellB (HKf.out.x w10.heap.size ⟨true, 8, 31, -1⟩ (by simp)).1 (i := 1) rfl, cellB (HKf.out.x w10.heap.size ⟨true, 8, 31, -1⟩ (by simp)).1 (i := 2) rfl, cellB (HKf.out.x w10.heap.size ⟨true, 8, 31, -1⟩ (by simp)).1 (i := 3) rfl⟩)
    | (go_at_call 31; (with_reducible refine (HLen.out _ HCf.out).mono ?_); rintro e wz ⟨rfl, hC⟩; replace HCf := Lib.hid (HCf.out.trans (by first | exact hC | exact ⟨hC.os, hC.tape, hC.output, hC.size, hC.block⟩)); replace HKf := Lib.hid (HKf.out.calm (by first | exact hC | exact ⟨hC.os, hC.tape, hC.output, hC.size, hC.block⟩)); clear hC; have xx := show wz.cell? ⟨w1.heap.size, 0, none⟩ = some (.bool false) ∧ wz.cell? ⟨w1.heap.size, 3, none⟩ = some (.int .i64 (-1)) ∧ wz.cell? ⟨w2.heap.size, 0, none⟩ = some (.bool false) ∧ wz.cell? ⟨w3.heap.size, 0, none⟩ = some (.bool true) ∧ wz.cell? ⟨w3.heap.size, 1, none⟩ = some (.int .i64 7) ∧ wz.cell? ⟨w3.heap.size, 2, none⟩ = some (.int .i64 0) ∧ wz.cell? ⟨w3.heap.size, 3, none⟩ = some (.int .i64 2) ∧ wz.cell? ⟨w5.heap.size, 0, none⟩ = some (.bool true) ∧ wz.cell? ⟨w5.heap.size, 1, none⟩ = some (.int .i64 7) ∧ wz.cell? ⟨w5.heap.size, 2, none⟩ = some (.int .i64 0) ∧ wz.cell? ⟨w5.heap.size, 3, none⟩ = some (.int .i64 (-1)) ∧ wz.cell? ⟨w6.heap.size, 0, none⟩ = some (.bool false) ∧ wz.cell? ⟨w9.heap.size, 0, none⟩ = some (.bool true) ∧ wz.cell? ⟨w9.heap.size, 1, none⟩ = some (.int .i64 7) ∧ wz.cell? ⟨w9.heap.size, 2, none⟩ = some (.int .i64 0) ∧ wz.cell? ⟨w9.heap.size, 3, none⟩ = some (.int .i64 4) ∧ wz.cell? ⟨w10.heap.size, 0, none⟩ = some (.bool true) ∧ wz.cell? ⟨w10.heap.size, 1, none⟩ = some (.int .i64 8) ∧ wz.cell? ⟨w10.heap.size, 2, none⟩ = some (.int .i64 31) ∧ wz.cell? ⟨w10.heap.size, 3, none⟩ = some (.int .i64 (-1)) from ⟨cellB (HKf.out.x w1.heap.size ⟨false, 0, 0, -1⟩ (by simp)).1 (i := 0) rfl, cellB (HKf.out.x w1.heap.size ⟨false, 0, 0, -1⟩ (by simp)).1 (i := 3) rfl, cellB (HKf.out.x w2.heap.size ⟨false, 0, 0, -1⟩ (by simp)).1 (i := 0) rfl, cellB (HKf.out.x w3.heap.size ⟨true, 7, 0, 2⟩ (by simp)).1 (i := 0) rfl, cellB (HKf.out.x w3.heap.size ⟨true, 7, 0, 2⟩ (by simp)).1 (i := 1) rfl, cellB (HKf.out.x w3.heap.size ⟨true, 7, 0, 2⟩ (by simp)).1 (i := 2) rfl, cellB (HKf.out.x w3.heap.size ⟨true, 7, 0, 2⟩ (by simp)).1 (i := 3) rfl, cellB (HKf.out.x w5.heap.size ⟨true, 7, 0, -1⟩ (by simp)).1 (i := 0) rfl, cellB (HKf.out.x w5.heap.size ⟨true, 7, 0, -1⟩ (by simp)).1 (i := 1) rfl, cellB (HKf.out.x w5.heap.size ⟨true, 7, 0, -1⟩ (by simp)).1 (i := 2) rfl, cellB (HKf.out.x w5.heap.size ⟨true, 7, 0, -1⟩ (by simp)).1 (i := 3) rfl, cellB (HKf.out.x w6.heap.size ⟨false, 8, 31, -1⟩ (by simp)).1 (i := 0) rfl, cellB (HKf.out.x w9.heap.size ⟨true, 7, 0, 4⟩ (by simp)).1 (i := 0) rfl, cellB (HKf.out.x w9.heap.size ⟨true, 7, 0, 4⟩ (by simp)).1 (i := 1) rfl, cellB (HKf.out.x w9.heap.size ⟨true, 7, 0, 4⟩ (by simp)).1 (i := 2) rfl, cellB (HKf.out.x w9.heap.size ⟨true, 7, 0, 4⟩ (by simp)).1 (i := 3) rfl, cellB (HKf.out.x w10.heap.size ⟨true, 8, 31, -1⟩ (by simp)).1 (i := 0) rfl, cellB (HKf.out.x w10.heap.size ⟨true, 8, 31, -1⟩ (by simp)).1 (i := 1) rfl, cellB (HKf.out.x w10.heap.size ⟨true, 8, 31, -1⟩ (by simp)).1 (i := 2) rfl, cellB (HKf.out.x w10.heap.size ⟨true, 8, 31, -1⟩ (by simp)).1 (i := 3) rfl⟩)
    | (go_at_call 32; (with_reducible refine (HRoom.out _ HCf.out).mono ?_); rintro e wz ⟨rfl, hC⟩; replace HCf := Lib.hid (HCf.out.trans (by first | exact hC | exact ⟨hC.os, hC.tape, hC.output, hC.size, hC.block⟩)); replace HKf := Lib.hid (HKf.out.calm (by first | exact hC | exact ⟨hC.os, hC.tape, hC.output, hC.size, hC.block⟩)); clear hC; have xx := show wz.cell? ⟨w1.heap.size, 0, none⟩ = some (.bool false) ∧ wz.cell? ⟨w1.heap.size, 3, none⟩ = some (.int .i64 (-1)) ∧ wz.cell? ⟨w2.heap.size, 0, none⟩ = some (.bool false) ∧ wz.cell? ⟨w3.heap.size, 0, none⟩ = some (.bool true) ∧ wz.cell? ⟨w3.heap.size, 1, none⟩ = some (.int .i64 7) ∧ wz.cell? ⟨w3.heap.size, 2, none⟩ = some (.int .i64 0) ∧ wz.cell? ⟨w3.heap.size, 3, none⟩ = some (.int .i64 2) ∧ wz.cell? ⟨w5.heap.size, 0, none⟩ = some (.bool true) ∧ wz.cell? ⟨w5.heap.size, 1, none⟩ = some (.int .i64 7) ∧ wz.cell? ⟨w5.heap.size, 2, none⟩ = some (.int .i64 0) ∧ wz.cell? ⟨w5.heap.size, 3, none⟩ = some (.int .i64 (-1)) ∧ wz.cell? ⟨w6.heap.size, 0, none⟩ = some (.bool false) ∧ wz.cell? ⟨w9.heap.size, 0, none⟩ = some (.bool true) ∧ wz.cell? ⟨w9.heap.size, 1, none⟩ = some (.int .i64 7) ∧ wz.cell? ⟨w9.heap.size, 2, none⟩ = some (.int .i64 0) ∧ wz.cell? ⟨w9.heap.size, 3, none⟩ = some (.int .i64 4) ∧ wz.cell? ⟨w10.heap.size, 0, none⟩ = some (.bool true) ∧ wz.cell? ⟨w10.heap.size, 1, none⟩ = some (.int .i64 8) ∧ wz.cell? ⟨w10.heap.size, 2, none⟩ = some (.int .i64 31) ∧ wz.cell? ⟨w10.heap.size, 3, none⟩ = some (.int .i64 (-1)) from ⟨cellB (HKf.out.x w1.heap.size ⟨false, 0, 0, -1⟩ (by simp)).1 (i := 0) rfl, cellB (HKf.out.x w1.heap.size ⟨false, 0, 0, -1⟩ (by simp)).1 (i := 3) rfl, cellB (HKf.out.x w2.heap.size ⟨false, 0, 0, -1⟩ (by simp)).1 (i := 0) rfl, cellB (HKf.out.x w3.heap.size ⟨true, 7, 0, 2⟩ (by simp)).1 (i := 0) rfl, cellB (HKf.out.x w3.heap.size ⟨true, 7, 0, 2⟩ (by simp)).1 (i := 1) rfl, cellB (HKf.out.x w3.heap.size ⟨true, 7, 0, 2⟩ (by simp)).1 (i := 2) rfl, cellB (HKf.out.x w3.heap.size ⟨true, 7, 0, 2⟩ (by simp)).1 (i := 3) rfl, cellB (HKf.out.x w5.heap.size ⟨true, 7, 0, -1⟩ (by simp)).1 (i := 0) rfl, cellB (HKf.out.x w5.heap.size ⟨true, 7, 0, -1⟩ (by simp)).1 (i := 1) rfl, cellB (HKf.out.x w5.heap.size ⟨true, 7, 0, -1⟩ (by simp)).1 (i := 2) rfl, cellB (HKf.out.x w5.heap.size ⟨true, 7, 0, -1⟩ (by simp)).1 (i := 3) rfl, cellB (HKf.out.x w6.heap.size ⟨false, 8, 31, -1⟩ (by simp)).1 (i := 0) rfl, cellB (HKf.out.x w9.heap.size ⟨true, 7, 0, 4⟩ (by simp)).1 (i := 0) rfl, cellB (HKf.out.x w9.heap.size ⟨true, 7, 0, 4⟩ (by simp)).1 (i := 1) rfl, cellB (HKf.out.x w9.heap.size ⟨true, 7, 0, 4⟩ (by simp)).1 (i := 2) rfl, cellB (HKf.out.x w9.heap.size ⟨true, 7, 0, 4⟩ (by simp)).1 (i := 3) rfl, cellB (HKf.out.x w10.heap.size ⟨true, 8, 31, -1⟩ (by simp)).1 (i := 0) rfl, cellB (HKf.out.x w10.heap.size ⟨true, 8, 31, -1⟩ (by simp)).1 (i := 1) rfl, cellB (HKf.out.x w10.heap.size ⟨true, 8, 31, -1⟩ (by simp)).1 (i := 2) rfl, cellB (HKf.out.x w10.heap.size ⟨true, 8, 31, -1⟩ (by simp)).1 (i := 3) rfl⟩)
    | fail)
  go_wp2
  go_ret
  exact ⟨rfl, HKf.out.c⟩

end Go.Proofs.YtiiafhlckmkcnaaGreat
