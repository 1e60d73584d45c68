
/- metronomelaw15.known: the chapter's rows (written by wip/known15.py). -/
import Derived.Test.YtpdfeinbbjfcaaaGreatKe
namespace Go.Proofs.YtpdfeinbbjfcaaaGreat
open Go.RowKit

theorem lnew_is : lnew = ⟨-1, [0, 0, 0, 0, 0, 0, 0, 0, 0, 0, 0, 0, 0, 0, 0, 0], [], []⟩ := by kernel_rfl

set_option maxRecDepth 100000 in
set_option maxHeartbeats 8000000 in
theorem known15 (w : World) : Calls Tryz.prog 9 #[] w fun e w' => e = .returned (.bool true) ∧ Chg [] w w' := by
  go_enter Tryz.func9, Tryz.ntmps9
  go_wp2_with fail
  refine (fnew w w (Chg.refl _ _)).mono ?_
  rintro e w0 ⟨cb, rb, a0, m0, a1, m1, rfl, hF, hC, hg⟩
  rw [lnew_is] at hF
  have H0 := Lib.hid hF
  clear hF hC hg
  go_wp2_with fail
  refine (fread 1 5 H0.out (by omega)).mono ?_
  rintro e w1 ⟨rfl, hF, hC⟩
  rw [show (⟨-1, [0, 0, 0, 0, 0, 0, 0, 0, 0, 0, 0, 0, 0, 0, 0, 0], [], []⟩ : LS).wantB false 1 5 = true by kernel_rfl, show (⟨-1, [0, 0, 0, 0, 0, 0, 0, 0, 0, 0, 0, 0, 0, 0, 0, 0], [], []⟩ : LS).wantE false 1 5 = 0 by kernel_rfl]
  rw [show (⟨-1, [0, 0, 0, 0, 0, 0, 0, 0, 0, 0, 0, 0, 0, 0, 0, 0], [], []⟩ : LS).wantS false 1 5 true = (⟨-1, [0, 1, 0, 0, 0, 0, 0, 0, 0, 0, 0, 0, 0, 0, 0, 0], [], []⟩ : LS) by kernel_rfl] at hF
  have H1 := Lib.hid hF
  clear hC hF
  go_wp2_with (first | fail | (go_at_call 15; go_in))
  refine (fread 1 5 H1.out (by omega)).mono ?_
  rintro e w2 ⟨rfl, hF, hC⟩
  rw [show (⟨-1, [0, 1, 0, 0, 0, 0, 0, 0, 0, 0, 0, 0, 0, 0, 0, 0], [], []⟩ : LS).wantB false 1 5 = true by kernel_rfl, show (⟨-1, [0, 1, 0, 0, 0, 0, 0, 0, 0, 0, 0, 0, 0, 0, 0, 0], [], []⟩ : LS).wantE false 1 5 = 0 by kernel_rfl]
  rw [show (⟨-1, [0, 1, 0, 0, 0, 0, 0, 0, 0, 0, 0, 0, 0, 0, 0, 0], [], []⟩ : LS).wantS false 1 5 true = (⟨-1, [0, 2, 0, 0, 0, 0, 0, 0, 0, 0, 0, 0, 0, 0, 0, 0], [], []⟩ : LS) by kernel_rfl] at hF
  have H2 := Lib.hid hF
  clear hC hF
  go_wp2_with (first | fail | (go_at_call 15; go_in))
  refine (fwrite 2 5 H2.out (by omega)).mono ?_
  rintro e w3 ⟨rfl, hF, hC⟩
  rw [show (⟨-1, [0, 2, 0, 0, 0, 0, 0, 0, 0, 0, 0, 0, 0, 0, 0, 0], [], []⟩ : LS).wantB true 2 5 = false by kernel_rfl, show (⟨-1, [0, 2, 0, 0, 0, 0, 0, 0, 0, 0, 0, 0, 0, 0, 0, 0], [], []⟩ : LS).wantE true 2 5 = 0 by kernel_rfl]
  rw [show (⟨-1, [0, 2, 0, 0, 0, 0, 0, 0, 0, 0, 0, 0, 0, 0, 0, 0], [], []⟩ : LS).wantS true 2 5 true = (⟨-1, [0, 2, 0, 0, 0, 0, 0, 0, 0, 0, 0, 0, 0, 0, 0, 0], [], [(2, 5)]⟩ : LS) by kernel_rfl] at hF
  have H3 := Lib.hid hF
  clear hC hF
  go_wp2_with (first | fail | (go_at_call 15; go_in))
  refine (fread 3 5 H3.out (by omega)).mono ?_
  rintro e w4 ⟨rfl, hF, hC⟩
  rw [show (⟨-1, [0, 2, 0, 0, 0, 0, 0, 0, 0, 0, 0, 0, 0, 0, 0, 0], [], [(2, 5)]⟩ : LS).wantB false 3 5 = false by kernel_rfl, show (⟨-1, [0, 2, 0, 0, 0, 0, 0, 0, 0, 0, 0, 0, 0, 0, 0, 0], [], [(2, 5)]⟩ : LS).wantE false 3 5 = 0 by kernel_rfl]
  rw [show (⟨-1, [0, 2, 0, 0, 0, 0, 0, 0, 0, 0, 0, 0, 0, 0, 0, 0], [], [(2, 5)]⟩ : LS).wantS false 3 5 true = (⟨-1, [0, 2, 0, 0, 0, 0, 0, 0, 0, 0, 0, 0, 0, 0, 0, 0], [(3, 5)], [(2, 5)]⟩ : LS) by kernel_rfl] at hF
  have H4 := Lib.hid hF
  clear hC hF
  go_wp2_with (first | fail | (go_at_call 15; go_in))
  refine (fread 4 6 H4.out (by omega)).mono ?_
  rintro e w5 ⟨rfl, hF, hC⟩
  rw [show (⟨-1, [0, 2, 0, 0, 0, 0, 0, 0, 0, 0, 0, 0, 0, 0, 0, 0], [(3, 5)], [(2, 5)]⟩ : LS).wantB false 4 6 = true by kernel_rfl, show (⟨-1, [0, 2, 0, 0, 0, 0, 0, 0, 0, 0, 0, 0, 0, 0, 0, 0], [(3, 5)], [(2, 5)]⟩ : LS).wantE false 4 6 = 0 by kernel_rfl]
  rw [show (⟨-1, [0, 2, 0, 0, 0, 0, 0, 0, 0, 0, 0, 0, 0, 0, 0, 0], [(3, 5)], [(2, 5)]⟩ : LS).wantS false 4 6 true = (⟨-1, [0, 2, 0, 0, 1, 0, 0, 0, 0, 0, 0, 0, 0, 0, 0, 0], [(3, 5)], [(2, 5)]⟩ : LS) by kernel_rfl] at hF
  have H5 := Lib.hid hF
  clear hC hF
  go_wp2_with (first | fail | (go_at_call 15; go_in))
  refine (fread 1 5 H5.out (by omega)).mono ?_
  rintro e w6 ⟨rfl, hF, hC⟩
  rw [show (⟨-1, [0, 2, 0, 0, 1, 0, 0, 0, 0, 0, 0, 0, 0, 0, 0, 0], [(3, 5)], [(2, 5)]⟩ : LS).wantB false 1 5 = true by kernel_rfl, show (⟨-1, [0, 2, 0, 0, 1, 0, 0, 0, 0, 0, 0, 0, 0, 0, 0, 0], [(3, 5)], [(2, 5)]⟩ : LS).wantE false 1 5 = 0 by kernel_rfl]
  rw [show (⟨-1, [0, 2, 0, 0, 1, 0, 0, 0, 0, 0, 0, 0, 0, 0, 0, 0], [(3, 5)], [(2, 5)]⟩ : LS).wantS false 1 5 true = (⟨-1, [0, 3, 0, 0, 1, 0, 0, 0, 0, 0, 0, 0, 0, 0, 0, 0], [(3, 5)], [(2, 5)]⟩ : LS) by kernel_rfl] at hF
  have H6 := Lib.hid hF
  clear hC hF
  go_wp2_with (first | fail | (go_at_call 15; go_in))
  refine (fwrite 1 5 H6.out (by omega)).mono ?_
  rintro e w7 ⟨rfl, hF, hC⟩
  rw [show (⟨-1, [0, 3, 0, 0, 1, 0, 0, 0, 0, 0, 0, 0, 0, 0, 0, 0], [(3, 5)], [(2, 5)]⟩ : LS).wantB true 1 5 = false by kernel_rfl, show (⟨-1, [0, 3, 0, 0, 1, 0, 0, 0, 0, 0, 0, 0, 0, 0, 0, 0], [(3, 5)], [(2, 5)]⟩ : LS).wantE true 1 5 = 7 by kernel_rfl]
  rw [show (⟨-1, [0, 3, 0, 0, 1, 0, 0, 0, 0, 0, 0, 0, 0, 0, 0, 0], [(3, 5)], [(2, 5)]⟩ : LS).wantS true 1 5 true = (⟨-1, [0, 3, 0, 0, 1, 0, 0, 0, 0, 0, 0, 0, 0, 0, 0, 0], [(3, 5)], [(2, 5)]⟩ : LS) by kernel_rfl] at hF
  have H7 := Lib.hid hF
  clear hC hF
  go_wp2_with (first | fail | (go_at_call 15; go_in))
  refine (fwrite 2 5 H7.out (by omega)).mono ?_
  rintro e w8 ⟨rfl, hF, hC⟩
  rw [show (⟨-1, [0, 3, 0, 0, 1, 0, 0, 0, 0, 0, 0, 0, 0, 0, 0, 0], [(3, 5)], [(2, 5)]⟩ : LS).wantB true 2 5 = false by kernel_rfl, show (⟨-1, [0, 3, 0, 0, 1, 0, 0, 0, 0, 0, 0, 0, 0, 0, 0, 0], [(3, 5)], [(2, 5)]⟩ : LS).wantE true 2 5 = 7 by kernel_rfl]
  rw [show (⟨-1, [0, 3, 0, 0, 1, 0, 0, 0, 0, 0, 0, 0, 0, 0, 0, 0], [(3, 5)], [(2, 5)]⟩ : LS).wantS true 2 5 true = (⟨-1, [0, 3, 0, 0, 1, 0, 0, 0, 0, 0, 0, 0, 0, 0, 0, 0], [(3, 5)], [(2, 5)]⟩ : LS) by kernel_rfl] at hF
  have H8 := Lib.hid hF
  clear hC hF
  go_wp2_with (first | fail | (go_at_call 15; go_in))
  refine (funlock 9 H8.out).mono ?_
  rintro e w9 ⟨vi, rfl, ho, hF, hC⟩
  rw [show (⟨-1, [0, 3, 0, 0, 1, 0, 0, 0, 0, 0, 0, 0, 0, 0, 0, 0], [(3, 5)], [(2, 5)]⟩ : LS).unE 9 = 6 by kernel_rfl]
  rw [show (⟨-1, [0, 3, 0, 0, 1, 0, 0, 0, 0, 0, 0, 0, 0, 0, 0, 0], [(3, 5)], [(2, 5)]⟩ : LS).unL 9 = [] by kernel_rfl] at ho
  rw [show (⟨-1, [0, 3, 0, 0, 1, 0, 0, 0, 0, 0, 0, 0, 0, 0, 0, 0], [(3, 5)], [(2, 5)]⟩ : LS).unS 9 = (⟨-1, [0, 3, 0, 0, 1, 0, 0, 0, 0, 0, 0, 0, 0, 0, 0, 0], [(3, 5)], [(2, 5)]⟩ : LS) by kernel_rfl] at hF
  obtain ⟨via, vic, rfl⟩ := ho.slice
  rw [List.length_nil]
  have H9 := Lib.hid hF
  clear hC hF
  clear ho
  go_wp2_with (first | fail | (go_at_call 15; go_in))
  refine (funlock 4 H9.out).mono ?_
  rintro e w10 ⟨vj, rfl, ho, hF, hC⟩
  rw [show (⟨-1, [0, 3, 0, 0, 1, 0, 0, 0, 0, 0, 0, 0, 0, 0, 0, 0], [(3, 5)], [(2, 5)]⟩ : LS).unE 4 = 0 by kernel_rfl]
  rw [show (⟨-1, [0, 3, 0, 0, 1, 0, 0, 0, 0, 0, 0, 0, 0, 0, 0, 0], [(3, 5)], [(2, 5)]⟩ : LS).unL 4 = [] by kernel_rfl] at ho
  rw [show (⟨-1, [0, 3, 0, 0, 1, 0, 0, 0, 0, 0, 0, 0, 0, 0, 0, 0], [(3, 5)], [(2, 5)]⟩ : LS).unS 4 = (⟨-1, [0, 3, 0, 0, 0, 0, 0, 0, 0, 0, 0, 0, 0, 0, 0, 0], [(3, 5)], [(2, 5)]⟩ : LS) by kernel_rfl] at hF
  obtain ⟨vja, vjc, rfl⟩ := ho.slice
  rw [List.length_nil]
  have H10 := Lib.hid hF
  clear hC hF
  clear ho
  go_wp2_with (first | fail | (go_at_call 15; go_in))
  refine (fwriters H10.out).mono ?_
  rintro e w11 ⟨vw, rfl, ho, hF, hC⟩
  rw [show ordT (⟨-1, [0, 3, 0, 0, 0, 0, 0, 0, 0, 0, 0, 0, 0, 0, 0, 0], [(3, 5)], [(2, 5)]⟩ : LS).W = [2] by kernel_rfl] at ho
  have H11 := Lib.hid hF
  clear hC hF
  have Ovw := Lib.hid ho
  clear ho
  go_wp2_with (first | fail | (go_at_call 15; go_in))
  refine (freaders H11.out).mono ?_
  rintro e w12 ⟨vr, rfl, ho, hF, hC⟩
  rw [show ordT (⟨-1, [0, 3, 0, 0, 0, 0, 0, 0, 0, 0, 0, 0, 0, 0, 0, 0], [(3, 5)], [(2, 5)]⟩ : LS).R = [3] by kernel_rfl] at ho
  have H12 := Lib.hid hF
  have Ovw := Lib.hid (Ovw.out.calm hC)
  clear hC hF
  have Ovr := Lib.hid ho
  clear ho
  go_wp2_with (first | fail | (go_at_call 15; go_in))
  refine (fleave 2 H12.out).mono ?_
  rintro e w13 ⟨vm, rfl, ho, hF, hC⟩
  rw [show (⟨-1, [0, 3, 0, 0, 0, 0, 0, 0, 0, 0, 0, 0, 0, 0, 0, 0], [(3, 5)], [(2, 5)]⟩ : LS).chE 2 1 = 0 by kernel_rfl]
  rw [show (⟨-1, [0, 3, 0, 0, 0, 0, 0, 0, 0, 0, 0, 0, 0, 0, 0, 0], [(3, 5)], [(2, 5)]⟩ : LS).lvT 2 = [3] by kernel_rfl] at ho
  rw [show (⟨-1, [0, 3, 0, 0, 0, 0, 0, 0, 0, 0, 0, 0, 0, 0, 0, 0], [(3, 5)], [(2, 5)]⟩ : LS).lvS 2 = (⟨-1, [0, 3, 0, 1, 0, 0, 0, 0, 0, 0, 0, 0, 0, 0, 0, 0], [], []⟩ : LS) by kernel_rfl] at hF
  have H13 := Lib.hid hF
  have Ovw := Lib.hid (Ovw.out.kept hC)
  have Ovr := Lib.hid (Ovr.out.kept hC)
  clear hC hF
  have Ovm := Lib.hid ho
  clear ho
  go_wp2_with (first | fail | (go_at_call 15; go_in))
  refine (freaders H13.out).mono ?_
  rintro e w14 ⟨vo, rfl, ho, hF, hC⟩
  rw [show ordT (⟨-1, [0, 3, 0, 1, 0, 0, 0, 0, 0, 0, 0, 0, 0, 0, 0, 0], [], []⟩ : LS).R = [] by kernel_rfl] at ho
  obtain ⟨voa, voc, rfl⟩ := ho.slice
  rw [List.length_nil]
  have H14 := Lib.hid hF
  have Ovw := Lib.hid (Ovw.out.calm hC)
  have Ovr := Lib.hid (Ovr.out.calm hC)
  have Ovm := Lib.hid (Ovm.out.calm hC)
  clear hC hF
  clear ho
  go_wp2_with (first | fail | (go_at_call 15; go_in))
  refine (lreadsc cb rb a0 m0 a1 m1 8 (⟨-1, [0, 3, 0, 1, 0, 0, 0, 0, 0, 0, 0, 0, 0, 0, 0, 0], [], []⟩ : LS) 1 w14 H14.out.l).mono ?_
  rintro e w15 ⟨rfl, hC⟩
  rw [show (⟨-1, [0, 3, 0, 1, 0, 0, 0, 0, 0, 0, 0, 0, 0, 0, 0, 0], [], []⟩ : LS).cnt 1 = 3 by kernel_rfl]
  have hF := H14.out.calm hC
  have H15 := Lib.hid hF
  have Ovw := Lib.hid (Ovw.out.calm hC)
  have Ovr := Lib.hid (Ovr.out.calm hC)
  have Ovm := Lib.hid (Ovm.out.calm hC)
  clear hC hF
  go_wp2_with (first | fail | (go_at_call 15; go_in))
  refine (lreadsc cb rb a0 m0 a1 m1 8 (⟨-1, [0, 3, 0, 1, 0, 0, 0, 0, 0, 0, 0, 0, 0, 0, 0, 0], [], []⟩ : LS) 3 w15 H15.out.l).mono ?_
  rintro e w16 ⟨rfl, hC⟩
  rw [show (⟨-1, [0, 3, 0, 1, 0, 0, 0, 0, 0, 0, 0, 0, 0, 0, 0, 0], [], []⟩ : LS).cnt 3 = 1 by kernel_rfl]
  have hF := H15.out.calm hC
  have H16 := Lib.hid hF
  have Ovw := Lib.hid (Ovw.out.calm hC)
  have Ovr := Lib.hid (Ovr.out.calm hC)
  have Ovm := Lib.hid (Ovm.out.calm hC)
  clear hC hF
  go_wp2_with (first | fail | (go_at_call 15; go_in))
  refine (funlock 1 H16.out).mono ?_
  rintro e w17 ⟨u1, rfl, ho, hF, hC⟩
  rw [show (⟨-1, [0, 3, 0, 1, 0, 0, 0, 0, 0, 0, 0, 0, 0, 0, 0, 0], [], []⟩ : LS).unE 1 = 0 by kernel_rfl]
  rw [show (⟨-1, [0, 3, 0, 1, 0, 0, 0, 0, 0, 0, 0, 0, 0, 0, 0, 0], [], []⟩ : LS).unL 1 = [] by kernel_rfl] at ho
  rw [show (⟨-1, [0, 3, 0, 1, 0, 0, 0, 0, 0, 0, 0, 0, 0, 0, 0, 0], [], []⟩ : LS).unS 1 = (⟨-1, [0, 2, 0, 1, 0, 0, 0, 0, 0, 0, 0, 0, 0, 0, 0, 0], [], []⟩ : LS) by kernel_rfl] at hF
  obtain ⟨u1a, u1c, rfl⟩ := ho.slice
  rw [List.length_nil]
  have H17 := Lib.hid hF
  have Ovw := Lib.hid (Ovw.out.kept hC)
  have Ovr := Lib.hid (Ovr.out.kept hC)
  have Ovm := Lib.hid (Ovm.out.kept hC)
  clear hC hF
  clear ho
  go_wp2_with (first | fail | (go_at_call 15; go_in))
  refine (funlock 1 H17.out).mono ?_
  rintro e w18 ⟨u2, rfl, ho, hF, hC⟩
  rw [show (⟨-1, [0, 2, 0, 1, 0, 0, 0, 0, 0, 0, 0, 0, 0, 0, 0, 0], [], []⟩ : LS).unE 1 = 0 by kernel_rfl]
  rw [show (⟨-1, [0, 2, 0, 1, 0, 0, 0, 0, 0, 0, 0, 0, 0, 0, 0, 0], [], []⟩ : LS).unL 1 = [] by kernel_rfl] at ho
  rw [show (⟨-1, [0, 2, 0, 1, 0, 0, 0, 0, 0, 0, 0, 0, 0, 0, 0, 0], [], []⟩ : LS).unS 1 = (⟨-1, [0, 1, 0, 1, 0, 0, 0, 0, 0, 0, 0, 0, 0, 0, 0, 0], [], []⟩ : LS) by kernel_rfl] at hF
  obtain ⟨u2a, u2c, rfl⟩ := ho.slice
  rw [List.length_nil]
  have H18 := Lib.hid hF
  have Ovw := Lib.hid (Ovw.out.kept hC)
  have Ovr := Lib.hid (Ovr.out.kept hC)
  have Ovm := Lib.hid (Ovm.out.kept hC)
  clear hC hF
  clear ho
  go_wp2_with (first | fail | (go_at_call 15; go_in))
  refine (funlock 1 H18.out).mono ?_
  rintro e w19 ⟨vs, rfl, ho, hF, hC⟩
  rw [show (⟨-1, [0, 1, 0, 1, 0, 0, 0, 0, 0, 0, 0, 0, 0, 0, 0, 0], [], []⟩ : LS).unE 1 = 0 by kernel_rfl]
  rw [show (⟨-1, [0, 1, 0, 1, 0, 0, 0, 0, 0, 0, 0, 0, 0, 0, 0, 0], [], []⟩ : LS).unL 1 = [] by kernel_rfl] at ho
  rw [show (⟨-1, [0, 1, 0, 1, 0, 0, 0, 0, 0, 0, 0, 0, 0, 0, 0, 0], [], []⟩ : LS).unS 1 = (⟨-1, [0, 0, 0, 1, 0, 0, 0, 0, 0, 0, 0, 0, 0, 0, 0, 0], [], []⟩ : LS) by kernel_rfl] at hF
  obtain ⟨vsa, vsc, rfl⟩ := ho.slice
  rw [List.length_nil]
  have H19 := Lib.hid hF
  have Ovw := Lib.hid (Ovw.out.kept hC)
  have Ovr := Lib.hid (Ovr.out.kept hC)
  have Ovm := Lib.hid (Ovm.out.kept hC)
  clear hC hF
  clear ho
  go_wp2_with (first | fail | (go_at_call 15; go_in))
  refine (fwrite 2 5 H19.out (by omega)).mono ?_
  rintro e w20 ⟨rfl, hF, hC⟩
  rw [show (⟨-1, [0, 0, 0, 1, 0, 0, 0, 0, 0, 0, 0, 0, 0, 0, 0, 0], [], []⟩ : LS).wantB true 2 5 = false by kernel_rfl, show (⟨-1, [0, 0, 0, 1, 0, 0, 0, 0, 0, 0, 0, 0, 0, 0, 0, 0], [], []⟩ : LS).wantE true 2 5 = 0 by kernel_rfl]
  rw [show (⟨-1, [0, 0, 0, 1, 0, 0, 0, 0, 0, 0, 0, 0, 0, 0, 0, 0], [], []⟩ : LS).wantS true 2 5 true = (⟨-1, [0, 0, 0, 1, 0, 0, 0, 0, 0, 0, 0, 0, 0, 0, 0, 0], [], [(2, 5)]⟩ : LS) by kernel_rfl] at hF
  have H20 := Lib.hid hF
  have Ovw := Lib.hid (Ovw.out.kept hC)
  have Ovr := Lib.hid (Ovr.out.kept hC)
  have Ovm := Lib.hid (Ovm.out.kept hC)
  clear hC hF
  go_wp2_with (first | fail | (go_at_call 15; go_in))
  refine (funlock 3 H20.out).mono ?_
  rintro e w21 ⟨vx, rfl, ho, hF, hC⟩
  rw [show (⟨-1, [0, 0, 0, 1, 0, 0, 0, 0, 0, 0, 0, 0, 0, 0, 0, 0], [], [(2, 5)]⟩ : LS).unE 3 = 0 by kernel_rfl]
  rw [show (⟨-1, [0, 0, 0, 1, 0, 0, 0, 0, 0, 0, 0, 0, 0, 0, 0, 0], [], [(2, 5)]⟩ : LS).unL 3 = [2] by kernel_rfl] at ho
  rw [show (⟨-1, [0, 0, 0, 1, 0, 0, 0, 0, 0, 0, 0, 0, 0, 0, 0, 0], [], [(2, 5)]⟩ : LS).unS 3 = (⟨2, [0, 0, 0, 0, 0, 0, 0, 0, 0, 0, 0, 0, 0, 0, 0, 0], [], []⟩ : LS) by kernel_rfl] at hF
  have H21 := Lib.hid hF
  have Ovw := Lib.hid (Ovw.out.kept hC)
  have Ovr := Lib.hid (Ovr.out.kept hC)
  have Ovm := Lib.hid (Ovm.out.kept hC)
  clear hC hF
  have Ovx := Lib.hid ho
  clear ho
  go_wp2_with (first | fail | (go_at_call 15; go_in))
  refine (lwriterc cb rb a0 m0 a1 m1 9 (⟨2, [0, 0, 0, 0, 0, 0, 0, 0, 0, 0, 0, 0, 0, 0, 0, 0], [], []⟩ : LS) w21 H21.out.l).mono ?_
  rintro e w22 ⟨rfl, hC⟩
  rw [show (if (⟨2, [0, 0, 0, 0, 0, 0, 0, 0, 0, 0, 0, 0, 0, 0, 0, 0], [], []⟩ : LS).wr = -1 then 0 else (⟨2, [0, 0, 0, 0, 0, 0, 0, 0, 0, 0, 0, 0, 0, 0, 0, 0], [], []⟩ : LS).wr) = 2 by kernel_rfl, show (!decide ((⟨2, [0, 0, 0, 0, 0, 0, 0, 0, 0, 0, 0, 0, 0, 0, 0, 0], [], []⟩ : LS).wr = -1)) = true by kernel_rfl]
  have hF := H21.out.calm hC
  have H22 := Lib.hid hF
  have Ovw := Lib.hid (Ovw.out.calm hC)
  have Ovr := Lib.hid (Ovr.out.calm hC)
  have Ovm := Lib.hid (Ovm.out.calm hC)
  have Ovx := Lib.hid (Ovx.out.calm hC)
  clear hC hF
  go_wp2_with (first | fail | (go_at_call 15; go_in))
  refine (fchange 2 1 H22.out).mono ?_
  rintro e w23 ⟨vz, rfl, ho, hF, hC⟩
  rw [show (⟨2, [0, 0, 0, 0, 0, 0, 0, 0, 0, 0, 0, 0, 0, 0, 0, 0], [], []⟩ : LS).chE 2 1 = 6 by kernel_rfl]
  rw [show (⟨2, [0, 0, 0, 0, 0, 0, 0, 0, 0, 0, 0, 0, 0, 0, 0, 0], [], []⟩ : LS).chT 2 1 = [] by kernel_rfl] at ho
  rw [show (⟨2, [0, 0, 0, 0, 0, 0, 0, 0, 0, 0, 0, 0, 0, 0, 0, 0], [], []⟩ : LS).chS 2 1 = (⟨2, [0, 0, 0, 0, 0, 0, 0, 0, 0, 0, 0, 0, 0, 0, 0, 0], [], []⟩ : LS) by kernel_rfl] at hF
  obtain ⟨vza, vzc, rfl⟩ := ho.slice
  rw [List.length_nil]
  have H23 := Lib.hid hF
  have Ovw := Lib.hid (Ovw.out.kept hC)
  have Ovr := Lib.hid (Ovr.out.kept hC)
  have Ovm := Lib.hid (Ovm.out.kept hC)
  have Ovx := Lib.hid (Ovx.out.kept hC)
  clear hC hF
  clear ho
  go_wp2_with (first | fail | (go_at_call 15; go_in))
  refine (sameInts_any vw _ [2] [2] _ (Ovw.out.calm ((Chg.refl [] w23).alloc _)).ints (IsInts.of_blk (ts := [2]) (heap_alloc_eq w23 (.cells #[.int .i64 2] 3))) (by simp) (by simp)).mono ?_
  rintro e w24 ⟨rfl, hC⟩
  rw [show decide (([2] : List Int) = [2]) = true from by decide]
  have hC := ((Chg.refl [] w23).alloc (.cells #[.int .i64 2] 3)).trans hC
  have hF := H23.out.calm hC
  have H24 := Lib.hid hF
  have Ovw := Lib.hid (Ovw.out.calm hC)
  have Ovr := Lib.hid (Ovr.out.calm hC)
  have Ovm := Lib.hid (Ovm.out.calm hC)
  have Ovx := Lib.hid (Ovx.out.calm hC)
  clear hC hF
  go_wp2_with (first | fail | (go_at_call 15; go_in))
  refine (sameInts_any vr _ [3] [3] _ (Ovr.out.calm ((Chg.refl [] w24).alloc _)).ints (IsInts.of_blk (ts := [3]) (heap_alloc_eq w24 (.cells #[.int .i64 3] 3))) (by simp) (by simp)).mono ?_
  rintro e w25 ⟨rfl, hC⟩
  rw [show decide (([3] : List Int) = [3]) = true from by decide]
  have hC := ((Chg.refl [] w24).alloc (.cells #[.int .i64 3] 3)).trans hC
  have hF := H24.out.calm hC
  have H25 := Lib.hid hF
  have Ovw := Lib.hid (Ovw.out.calm hC)
  have Ovr := Lib.hid (Ovr.out.calm hC)
  have Ovm := Lib.hid (Ovm.out.calm hC)
  have Ovx := Lib.hid (Ovx.out.calm hC)
  clear hC hF
  go_wp2_with (first | fail | (go_at_call 15; go_in))
  refine (sameInts_any vm _ [3] [3] _ (Ovm.out.calm ((Chg.refl [] w25).alloc _)).ints (IsInts.of_blk (ts := [3]) (heap_alloc_eq w25 (.cells #[.int .i64 3] 3))) (by simp) (by simp)).mono ?_
  rintro e w26 ⟨rfl, hC⟩
  rw [show decide (([3] : List Int) = [3]) = true from by decide]
  have hC := ((Chg.refl [] w25).alloc (.cells #[.int .i64 3] 3)).trans hC
  have hF := H25.out.calm hC
  have H26 := Lib.hid hF
  have Ovw := Lib.hid (Ovw.out.calm hC)
  have Ovr := Lib.hid (Ovr.out.calm hC)
  have Ovm := Lib.hid (Ovm.out.calm hC)
  have Ovx := Lib.hid (Ovx.out.calm hC)
  clear hC hF
  go_wp2_with (first | fail | (go_at_call 15; go_in))
  refine (sameInts_any vx _ [2] [2] _ (Ovx.out.calm ((Chg.refl [] w26).alloc _)).ints (IsInts.of_blk (ts := [2]) (heap_alloc_eq w26 (.cells #[.int .i64 2] 3))) (by simp) (by simp)).mono ?_
  rintro e w27 ⟨rfl, hC⟩
  rw [show decide (([2] : List Int) = [2]) = true from by decide]
  have hC := ((Chg.refl [] w26).alloc (.cells #[.int .i64 2] 3)).trans hC
  have hF := H26.out.calm hC
  have H27 := Lib.hid hF
  have Ovw := Lib.hid (Ovw.out.calm hC)
  have Ovr := Lib.hid (Ovr.out.calm hC)
  have Ovm := Lib.hid (Ovm.out.calm hC)
  have Ovx := Lib.hid (Ovx.out.calm hC)
  clear hC hF
  go_wp2_with (first | fail | (go_at_call 15; go_in))
  go_ret
  exact ⟨rfl, H27.out.c⟩

end Go.Proofs.YtpdfeinbbjfcaaaGreat
