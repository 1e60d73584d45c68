
/- metronomelaw15.LockNil answers true (written by wip/nil15.py). -/
import Derived.Test.YtpdfeinbbjfcaaaKNil
namespace Go.Proofs.Ytpdfeinbbjfcaaa
open Go.RowKit

theorem FK.beside {S : List Nat} {w w1 w2 : World} {cb rb a0 m0 a1 m1 : Nat} {N : Int} {s : LS} (h : FK w w1 cb rb a0 m0 a1 m1 N s) (hC : Chg S w1 w2) (hS : ∀ k ∈ S, k ∉ [cb, rb, a0, m0, a1, m1] ∧ w.heap.size ≤ k) : FK w w2 cb rb a0 m0 a1 m1 N s :=
  ⟨h.l.kept hC (fun k hk => (hS k hk).1), h.c.trans' hC (fun k hk => .inr (hS k hk).2), h.g⟩
set_option maxRecDepth 100000 in
theorem lnumc0 (e : Int) (w : World) : Calls Try.prog 11 #[.int .i64 e] w fun r w' => r = .returned (.int .i64 e) ∧ w = w' := by
  go_enter Try.func11, Try.ntmps11
  go_wp2
  go_ret
  exact ⟨rfl, rfl⟩

/-- Thread 3 reads k times over. -/
def s3 (k : Nat) : LS := ⟨-1, [0, 0, 0, (k : Int), 0, 0, 0, 0, 0, 0, 0, 0, 0, 0, 0, 0], [], []⟩
theorem s3_cnt (k : Nat) : (s3 k).cnt 3 = k := rfl
theorem s3_wantE {k : Nat} (h : k < 32767) : (s3 k).wantE false 3 1 = 0 := by
  have e : (s3 k).badE false 3 = 0 := by
    unfold LS.badE
    rw [s3_cnt, if_neg (fun hh => by
      rcases hh with h1 | h1 | h1
      · have h2 : (s3 k).is 3 = false := rfl
        rw [h2] at h1
        cases h1
      · have h2 : (-1 : Int) = 3 := h1
        omega
      · exact absurd h1.1 (by simp)), if_neg (fun hh => by have := hh.2; omega)]
  unfold LS.wantE
  rw [if_pos (by decide)]
  exact e
theorem s3_may (k : Nat) : (s3 k).may false 3 1 = true := by
  have h1 : fP (s3 k).W = 0 := rfl
  have h2 : (s3 k).wr = -1 := rfl
  unfold LS.may LS.mayR
  rw [s3_cnt, h1, h2]
  simp
theorem s3_want {k : Nat} (h : k < 32767) : (s3 k).wantB false 3 1 = true ∧ (s3 k).wantS false 3 1 true = s3 (k + 1) := by
  unfold LS.wantB LS.wantS
  rw [s3_wantE h, s3_may]
  exact ⟨rfl, by
    show LS.mk _ _ _ _ = LS.mk _ _ _ _
    rw [s3_cnt]
    show LS.mk (-1) [0, 0, 0, ((k : Int) + 1), 0, 0, 0, 0, 0, 0, 0, 0, 0, 0, 0, 0] [] [] = LS.mk (-1) [0, 0, 0, (((k + 1 : Nat)) : Int), 0, 0, 0, 0, 0, 0, 0, 0, 0, 0, 0, 0] [] []
    congr 1⟩
theorem s3_new : lnew = s3 0 := by kernel_rfl
theorem s3_full : s3 32767 = ⟨-1, [0, 0, 0, 32767, 0, 0, 0, 0, 0, 0, 0, 0, 0, 0, 0, 0], [], []⟩ := by
  show LS.mk (-1) [0, 0, 0, ((32767 : Nat) : Int), 0, 0, 0, 0, 0, 0, 0, 0, 0, 0, 0, 0] [] [] = _
  rfl

set_option maxRecDepth 100000 in
set_option maxHeartbeats 16000000 in
theorem lockNil_any (w : World) : Calls Try.prog 4 #[] w fun e w' => e = .returned (.bool true) ∧ Chg [] w w' := by
  go_enter Try.func4, Try.ntmps4
  go_wp2_with fail
  refine (fnew w w (Chg.refl _ _)).mono ?_
  rintro e w0 ⟨cb, rb, a0, m0, a1, m1, rfl, hF, hC, hg⟩
  rw [s3_new] at hF
  have HA0 := Lib.hid hF
  clear hF hC hg
  go_wp2
  go_loopw [2] (fun i wr => ∃ k : Nat, k ≤ 32767 ∧ i = .int .i64 k ∧ FK w wr cb rb a0 m0 a1 m1 k (s3 k)) (fun i _ => 32767 - (intOf i).toNat)
  case atStart => exact ⟨0, by omega, rfl, HA0.out⟩
  case round =>
    obtain ⟨k, hk, rfl, hF⟩ := hrel
    have HF := Lib.hid hF
    have HKk := Lib.hid hk
    clear hF HA0 hk
    by_cases hlt : k < 32767
    · have hR := fread 3 1 HF.out (by omega)
      rw [s3_wantE hlt, (s3_want hlt).1, (s3_want hlt).2] at hR
      have HR := Lib.hid hR
      have q1 : decide ((k : Int) < 32767) = true := decide_eq_true (by omega)
      have HLt := Lib.hid hlt
      have hov : (k : Int) ≤ 40000 := by omega
      clear hR hlt
      go_wp2_with fail
      refine HR.out.mono ?_
      rintro e w2 ⟨rfl, hF, hC⟩
      have HF2 := Lib.hid hF
      clear hF hC
      go_wp2_with (go_at_call 11; refine (lnumc0 _ _).mono ?_; rintro e w' ⟨rfl, rfl⟩)
      go_roundw
      case rel => exact ⟨k + 1, by have := HLt.out; omega, by go_num, by have := HF2.out; rwa [show ((k + 1 : Nat) : Int) = (k : Int) + 1 by omega]⟩
      case measure => have := HLt.out; simp [intOf]; omega
    · have hk2 : k = 32767 := by have := HKk.out; omega
      have q1 : decide ((k : Int) < 32767) = false := decide_eq_false (by omega)
      have hF := HF.out
      rw [hk2] at hF
      rw [s3_full] at hF
      obtain ⟨w0, hw0⟩ : ∃ x, x = wr := ⟨_, rfl⟩
      rw [← hw0] at hF
      rw [← hw0]
      have HA0 := Lib.hid hF
      clear hlt hk2 hF HF hw0
      go_wp2_with fail
      refine (fread 3 1 HA0.out (by omega)).mono ?_
      rintro e w1 ⟨rfl, hF, hC⟩
      rw [show (⟨-1, [0, 0, 0, 32767, 0, 0, 0, 0, 0, 0, 0, 0, 0, 0, 0, 0], [], []⟩ : LS).wantB false 3 1 = false by kernel_rfl, show (⟨-1, [0, 0, 0, 32767, 0, 0, 0, 0, 0, 0, 0, 0, 0, 0, 0, 0], [], []⟩ : LS).wantE false 3 1 = 5 by kernel_rfl]
      rw [show (⟨-1, [0, 0, 0, 32767, 0, 0, 0, 0, 0, 0, 0, 0, 0, 0, 0, 0], [], []⟩ : LS).wantS false 3 1 true = (⟨-1, [0, 0, 0, 32767, 0, 0, 0, 0, 0, 0, 0, 0, 0, 0, 0, 0], [], []⟩ : LS) by kernel_rfl] at hF
      have HA1 := Lib.hid hF
      clear hC hF
      go_wp2_with (first | fail | (go_at_call 11; go_in))
      refine (ftryread 3 1 HA1.out (by omega)).mono ?_
      rintro e w2 ⟨rfl, hF, hC⟩
      rw [show (⟨-1, [0, 0, 0, 32767, 0, 0, 0, 0, 0, 0, 0, 0, 0, 0, 0, 0], [], []⟩ : LS).wantB false 3 1 = false by kernel_rfl, show (⟨-1, [0, 0, 0, 32767, 0, 0, 0, 0, 0, 0, 0, 0, 0, 0, 0, 0], [], []⟩ : LS).wantE false 3 1 = 5 by kernel_rfl]
      rw [show (⟨-1, [0, 0, 0, 32767, 0, 0, 0, 0, 0, 0, 0, 0, 0, 0, 0, 0], [], []⟩ : LS).wantS false 3 1 false = (⟨-1, [0, 0, 0, 32767, 0, 0, 0, 0, 0, 0, 0, 0, 0, 0, 0, 0], [], []⟩ : LS) by kernel_rfl] at hF
      have HA2 := Lib.hid hF
      clear hC hF
      go_wp2_with (first | fail | (go_at_call 11; go_in))
      refine (fwrite 3 1 HA2.out (by omega)).mono ?_
      rintro e w3 ⟨rfl, hF, hC⟩
      rw [show (⟨-1, [0, 0, 0, 32767, 0, 0, 0, 0, 0, 0, 0, 0, 0, 0, 0, 0], [], []⟩ : LS).wantB true 3 1 = false by kernel_rfl, show (⟨-1, [0, 0, 0, 32767, 0, 0, 0, 0, 0, 0, 0, 0, 0, 0, 0, 0], [], []⟩ : LS).wantE true 3 1 = 7 by kernel_rfl]
      rw [show (⟨-1, [0, 0, 0, 32767, 0, 0, 0, 0, 0, 0, 0, 0, 0, 0, 0, 0], [], []⟩ : LS).wantS true 3 1 true = (⟨-1, [0, 0, 0, 32767, 0, 0, 0, 0, 0, 0, 0, 0, 0, 0, 0, 0], [], []⟩ : LS) by kernel_rfl] at hF
      have HA3 := Lib.hid hF
      clear hC hF
      go_wp2_with (first | fail | (go_at_call 11; go_in))
      refine (fread 16 1 HA3.out (by omega)).mono ?_
      rintro e w4 ⟨rfl, hF, hC⟩
      rw [show (⟨-1, [0, 0, 0, 32767, 0, 0, 0, 0, 0, 0, 0, 0, 0, 0, 0, 0], [], []⟩ : LS).wantB false 16 1 = false by kernel_rfl, show (⟨-1, [0, 0, 0, 32767, 0, 0, 0, 0, 0, 0, 0, 0, 0, 0, 0, 0], [], []⟩ : LS).wantE false 16 1 = 2 by kernel_rfl]
      rw [show (⟨-1, [0, 0, 0, 32767, 0, 0, 0, 0, 0, 0, 0, 0, 0, 0, 0, 0], [], []⟩ : LS).wantS false 16 1 true = (⟨-1, [0, 0, 0, 32767, 0, 0, 0, 0, 0, 0, 0, 0, 0, 0, 0, 0], [], []⟩ : LS) by kernel_rfl] at hF
      have HA4 := Lib.hid hF
      clear hC hF
      go_wp2_with (first | fail | (go_at_call 11; go_in))
      refine (fwrite 0 0 HA4.out (by omega)).mono ?_
      rintro e w5 ⟨rfl, hF, hC⟩
      rw [show (⟨-1, [0, 0, 0, 32767, 0, 0, 0, 0, 0, 0, 0, 0, 0, 0, 0, 0], [], []⟩ : LS).wantB true 0 0 = false by kernel_rfl, show (⟨-1, [0, 0, 0, 32767, 0, 0, 0, 0, 0, 0, 0, 0, 0, 0, 0, 0], [], []⟩ : LS).wantE true 0 0 = 2 by kernel_rfl]
      rw [show (⟨-1, [0, 0, 0, 32767, 0, 0, 0, 0, 0, 0, 0, 0, 0, 0, 0, 0], [], []⟩ : LS).wantS true 0 0 true = (⟨-1, [0, 0, 0, 32767, 0, 0, 0, 0, 0, 0, 0, 0, 0, 0, 0, 0], [], []⟩ : LS) by kernel_rfl] at hF
      have HA5 := Lib.hid hF
      clear hC hF
      go_wp2_with (first | fail | (go_at_call 11; go_in))
      refine (fleave 3 HA5.out).mono ?_
      rintro e w6 ⟨vf, rfl, ho, hF, hC⟩
      rw [show (⟨-1, [0, 0, 0, 32767, 0, 0, 0, 0, 0, 0, 0, 0, 0, 0, 0, 0], [], []⟩ : LS).chE 3 1 = 6 by kernel_rfl]
      rw [show (⟨-1, [0, 0, 0, 32767, 0, 0, 0, 0, 0, 0, 0, 0, 0, 0, 0, 0], [], []⟩ : LS).lvT 3 = [] by kernel_rfl] at ho
      rw [show (⟨-1, [0, 0, 0, 32767, 0, 0, 0, 0, 0, 0, 0, 0, 0, 0, 0, 0], [], []⟩ : LS).lvS 3 = (⟨-1, [0, 0, 0, 32767, 0, 0, 0, 0, 0, 0, 0, 0, 0, 0, 0, 0], [], []⟩ : LS) by kernel_rfl] at hF
      obtain ⟨vfa, vfc, rfl⟩ := ho.slice
      rw [List.length_nil]
      have HA6 := Lib.hid hF
      clear hC hF
      clear ho
      go_wp2_with (first | fail | (go_at_call 11; go_in))
      refine (fleave 16 HA6.out).mono ?_
      rintro e w7 ⟨vg, rfl, ho, hF, hC⟩
      rw [show (⟨-1, [0, 0, 0, 32767, 0, 0, 0, 0, 0, 0, 0, 0, 0, 0, 0, 0], [], []⟩ : LS).chE 16 1 = 2 by kernel_rfl]
      rw [show (⟨-1, [0, 0, 0, 32767, 0, 0, 0, 0, 0, 0, 0, 0, 0, 0, 0, 0], [], []⟩ : LS).lvT 16 = [] by kernel_rfl] at ho
      rw [show (⟨-1, [0, 0, 0, 32767, 0, 0, 0, 0, 0, 0, 0, 0, 0, 0, 0, 0], [], []⟩ : LS).lvS 16 = (⟨-1, [0, 0, 0, 32767, 0, 0, 0, 0, 0, 0, 0, 0, 0, 0, 0, 0], [], []⟩ : LS) by kernel_rfl] at hF
      obtain ⟨vga, vgc, rfl⟩ := ho.slice
      rw [List.length_nil]
      have HA7 := Lib.hid hF
      clear hC hF
      clear ho
      go_wp2_with (first | fail | (go_at_call 11; go_in))
      refine (fchange 3 32 HA7.out).mono ?_
      rintro e w8 ⟨vh, rfl, ho, hF, hC⟩
      rw [show (⟨-1, [0, 0, 0, 32767, 0, 0, 0, 0, 0, 0, 0, 0, 0, 0, 0, 0], [], []⟩ : LS).chE 3 32 = 2 by kernel_rfl]
      rw [show (⟨-1, [0, 0, 0, 32767, 0, 0, 0, 0, 0, 0, 0, 0, 0, 0, 0, 0], [], []⟩ : LS).chT 3 32 = [] by kernel_rfl] at ho
      rw [show (⟨-1, [0, 0, 0, 32767, 0, 0, 0, 0, 0, 0, 0, 0, 0, 0, 0, 0], [], []⟩ : LS).chS 3 32 = (⟨-1, [0, 0, 0, 32767, 0, 0, 0, 0, 0, 0, 0, 0, 0, 0, 0, 0], [], []⟩ : LS) by kernel_rfl] at hF
      obtain ⟨vha, vhc, rfl⟩ := ho.slice
      rw [List.length_nil]
      have HA8 := Lib.hid hF
      clear hC hF
      clear ho
      go_wp2_with (first | fail | (go_at_call 11; go_in))
      refine (fnew w w8 HA8.out.c).mono ?_
      rintro e w9 ⟨cb2, rb2, a2, m2, a3, m3, rfl, hF, hC, hg⟩
      rw [lnew_is] at hF
      have HA9 := Lib.hid (HA8.out.calm hC)
      have HD := Lib.hid (show ∀ x ∈ [cb2, rb2, a2, m2, a3, m3], x ∉ [cb, rb, a0, m0, a1, m1] ∧ w.heap.size ≤ x from fun x hx => ⟨fun hm => by have := hg x hx; have := HA8.out.l.lt x hm; omega, hF.g x hx⟩)
      have HB9 := Lib.hid hF
      clear hF hC hg
      go_wp2_with fail
      refine (fwrite 0 1 HB9.out (by omega)).mono ?_
      rintro e w10 ⟨rfl, hF, hC⟩
      rw [show (⟨-1, [0, 0, 0, 0, 0, 0, 0, 0, 0, 0, 0, 0, 0, 0, 0, 0], [], []⟩ : LS).wantB true 0 1 = true by kernel_rfl, show (⟨-1, [0, 0, 0, 0, 0, 0, 0, 0, 0, 0, 0, 0, 0, 0, 0, 0], [], []⟩ : LS).wantE true 0 1 = 0 by kernel_rfl]
      rw [show (⟨-1, [0, 0, 0, 0, 0, 0, 0, 0, 0, 0, 0, 0, 0, 0, 0, 0], [], []⟩ : LS).wantS true 0 1 true = (⟨0, [0, 0, 0, 0, 0, 0, 0, 0, 0, 0, 0, 0, 0, 0, 0, 0], [], []⟩ : LS) by kernel_rfl] at hF
      have HA10 := Lib.hid (HA9.out.beside hC HD.out)
      have HB10 := Lib.hid hF
      clear hC hF
      go_wp2_with (first | fail | (go_at_call 11; go_in))
      refine (fread 1 9 HB10.out (by omega)).mono ?_
      rintro e w11 ⟨rfl, hF, hC⟩
      rw [show (⟨0, [0, 0, 0, 0, 0, 0, 0, 0, 0, 0, 0, 0, 0, 0, 0, 0], [], []⟩ : LS).wantB false 1 9 = false by kernel_rfl, show (⟨0, [0, 0, 0, 0, 0, 0, 0, 0, 0, 0, 0, 0, 0, 0, 0, 0], [], []⟩ : LS).wantE false 1 9 = 0 by kernel_rfl]
      rw [show (⟨0, [0, 0, 0, 0, 0, 0, 0, 0, 0, 0, 0, 0, 0, 0, 0, 0], [], []⟩ : LS).wantS false 1 9 true = (⟨0, [0, 0, 0, 0, 0, 0, 0, 0, 0, 0, 0, 0, 0, 0, 0, 0], [(1, 9)], []⟩ : LS) by kernel_rfl] at hF
      have HA11 := Lib.hid (HA10.out.beside hC HD.out)
      have HB11 := Lib.hid hF
      clear hC hF
      go_wp2_with (first | fail | (go_at_call 11; go_in))
      refine (fread 2 5 HB11.out (by omega)).mono ?_
      rintro e w12 ⟨rfl, hF, hC⟩
      rw [show (⟨0, [0, 0, 0, 0, 0, 0, 0, 0, 0, 0, 0, 0, 0, 0, 0, 0], [(1, 9)], []⟩ : LS).wantB false 2 5 = false by kernel_rfl, show (⟨0, [0, 0, 0, 0, 0, 0, 0, 0, 0, 0, 0, 0, 0, 0, 0, 0], [(1, 9)], []⟩ : LS).wantE false 2 5 = 0 by kernel_rfl]
      rw [show (⟨0, [0, 0, 0, 0, 0, 0, 0, 0, 0, 0, 0, 0, 0, 0, 0, 0], [(1, 9)], []⟩ : LS).wantS false 2 5 true = (⟨0, [0, 0, 0, 0, 0, 0, 0, 0, 0, 0, 0, 0, 0, 0, 0, 0], [(1, 9), (2, 5)], []⟩ : LS) by kernel_rfl] at hF
      have HA12 := Lib.hid (HA11.out.beside hC HD.out)
      have HB12 := Lib.hid hF
      clear hC hF
      go_wp2_with (first | fail | (go_at_call 11; go_in))
      refine (fwrite 3 5 HB12.out (by omega)).mono ?_
      rintro e w13 ⟨rfl, hF, hC⟩
      rw [show (⟨0, [0, 0, 0, 0, 0, 0, 0, 0, 0, 0, 0, 0, 0, 0, 0, 0], [(1, 9), (2, 5)], []⟩ : LS).wantB true 3 5 = false by kernel_rfl, show (⟨0, [0, 0, 0, 0, 0, 0, 0, 0, 0, 0, 0, 0, 0, 0, 0, 0], [(1, 9), (2, 5)], []⟩ : LS).wantE true 3 5 = 0 by kernel_rfl]
      rw [show (⟨0, [0, 0, 0, 0, 0, 0, 0, 0, 0, 0, 0, 0, 0, 0, 0, 0], [(1, 9), (2, 5)], []⟩ : LS).wantS true 3 5 true = (⟨0, [0, 0, 0, 0, 0, 0, 0, 0, 0, 0, 0, 0, 0, 0, 0, 0], [(1, 9), (2, 5)], [(3, 5)]⟩ : LS) by kernel_rfl] at hF
      have HA13 := Lib.hid (HA12.out.beside hC HD.out)
      have HB13 := Lib.hid hF
      clear hC hF
      go_wp2_with (first | fail | (go_at_call 11; go_in))
      refine (fread 4 6 HB13.out (by omega)).mono ?_
      rintro e w14 ⟨rfl, hF, hC⟩
      rw [show (⟨0, [0, 0, 0, 0, 0, 0, 0, 0, 0, 0, 0, 0, 0, 0, 0, 0], [(1, 9), (2, 5)], [(3, 5)]⟩ : LS).wantB false 4 6 = false by kernel_rfl, show (⟨0, [0, 0, 0, 0, 0, 0, 0, 0, 0, 0, 0, 0, 0, 0, 0, 0], [(1, 9), (2, 5)], [(3, 5)]⟩ : LS).wantE false 4 6 = 0 by kernel_rfl]
      rw [show (⟨0, [0, 0, 0, 0, 0, 0, 0, 0, 0, 0, 0, 0, 0, 0, 0, 0], [(1, 9), (2, 5)], [(3, 5)]⟩ : LS).wantS false 4 6 true = (⟨0, [0, 0, 0, 0, 0, 0, 0, 0, 0, 0, 0, 0, 0, 0, 0, 0], [(1, 9), (2, 5), (4, 6)], [(3, 5)]⟩ : LS) by kernel_rfl] at hF
      have HA14 := Lib.hid (HA13.out.beside hC HD.out)
      have HB14 := Lib.hid hF
      clear hC hF
      go_wp2_with (first | fail | (go_at_call 11; go_in))
      refine (funlock 0 HB14.out).mono ?_
      rintro e w15 ⟨vi, rfl, ho, hF, hC⟩
      rw [show (⟨0, [0, 0, 0, 0, 0, 0, 0, 0, 0, 0, 0, 0, 0, 0, 0, 0], [(1, 9), (2, 5), (4, 6)], [(3, 5)]⟩ : LS).unE 0 = 0 by kernel_rfl]
      rw [show (⟨0, [0, 0, 0, 0, 0, 0, 0, 0, 0, 0, 0, 0, 0, 0, 0, 0], [(1, 9), (2, 5), (4, 6)], [(3, 5)]⟩ : LS).unL 0 = [1, 4] by kernel_rfl] at ho
      rw [show (⟨0, [0, 0, 0, 0, 0, 0, 0, 0, 0, 0, 0, 0, 0, 0, 0, 0], [(1, 9), (2, 5), (4, 6)], [(3, 5)]⟩ : LS).unS 0 = (⟨-1, [0, 1, 0, 0, 1, 0, 0, 0, 0, 0, 0, 0, 0, 0, 0, 0], [(2, 5)], [(3, 5)]⟩ : LS) by kernel_rfl] at hF
      have HA15 := Lib.hid (HA14.out.beside hC HD.out)
      have HB15 := Lib.hid hF
      clear hC hF
      have Ovi := Lib.hid ho
      clear ho
      go_wp2_with (first | fail | (go_at_call 11; go_in))
      refine (funlock 1 HB15.out).mono ?_
      rintro e w16 ⟨vx, rfl, ho, hF, hC⟩
      rw [show (⟨-1, [0, 1, 0, 0, 1, 0, 0, 0, 0, 0, 0, 0, 0, 0, 0, 0], [(2, 5)], [(3, 5)]⟩ : LS).unE 1 = 0 by kernel_rfl]
      rw [show (⟨-1, [0, 1, 0, 0, 1, 0, 0, 0, 0, 0, 0, 0, 0, 0, 0, 0], [(2, 5)], [(3, 5)]⟩ : LS).unL 1 = [] by kernel_rfl] at ho
      rw [show (⟨-1, [0, 1, 0, 0, 1, 0, 0, 0, 0, 0, 0, 0, 0, 0, 0, 0], [(2, 5)], [(3, 5)]⟩ : LS).unS 1 = (⟨-1, [0, 0, 0, 0, 1, 0, 0, 0, 0, 0, 0, 0, 0, 0, 0, 0], [(2, 5)], [(3, 5)]⟩ : LS) by kernel_rfl] at hF
      obtain ⟨vxa, vxc, rfl⟩ := ho.slice
      rw [List.length_nil]
      have HA16 := Lib.hid (HA15.out.beside hC HD.out)
      have HB16 := Lib.hid hF
      have Ovi := Lib.hid (Ovi.out.kept hC)
      clear hC hF
      clear ho
      go_wp2_with (first | fail | (go_at_call 11; go_in))
      refine (funlock 4 HB16.out).mono ?_
      rintro e w17 ⟨vj, rfl, ho, hF, hC⟩
      rw [show (⟨-1, [0, 0, 0, 0, 1, 0, 0, 0, 0, 0, 0, 0, 0, 0, 0, 0], [(2, 5)], [(3, 5)]⟩ : LS).unE 4 = 0 by kernel_rfl]
      rw [show (⟨-1, [0, 0, 0, 0, 1, 0, 0, 0, 0, 0, 0, 0, 0, 0, 0, 0], [(2, 5)], [(3, 5)]⟩ : LS).unL 4 = [3] by kernel_rfl] at ho
      rw [show (⟨-1, [0, 0, 0, 0, 1, 0, 0, 0, 0, 0, 0, 0, 0, 0, 0, 0], [(2, 5)], [(3, 5)]⟩ : LS).unS 4 = (⟨3, [0, 0, 0, 0, 0, 0, 0, 0, 0, 0, 0, 0, 0, 0, 0, 0], [(2, 5)], []⟩ : LS) by kernel_rfl] at hF
      have HA17 := Lib.hid (HA16.out.beside hC HD.out)
      have HB17 := Lib.hid hF
      have Ovi := Lib.hid (Ovi.out.kept hC)
      clear hC hF
      have Ovj := Lib.hid ho
      clear ho
      go_wp2_with (first | fail | (go_at_call 11; go_in))
      refine (funlock 3 HB17.out).mono ?_
      rintro e w18 ⟨vk, rfl, ho, hF, hC⟩
      rw [show (⟨3, [0, 0, 0, 0, 0, 0, 0, 0, 0, 0, 0, 0, 0, 0, 0, 0], [(2, 5)], []⟩ : LS).unE 3 = 0 by kernel_rfl]
      rw [show (⟨3, [0, 0, 0, 0, 0, 0, 0, 0, 0, 0, 0, 0, 0, 0, 0, 0], [(2, 5)], []⟩ : LS).unL 3 = [2] by kernel_rfl] at ho
      rw [show (⟨3, [0, 0, 0, 0, 0, 0, 0, 0, 0, 0, 0, 0, 0, 0, 0, 0], [(2, 5)], []⟩ : LS).unS 3 = (⟨-1, [0, 0, 1, 0, 0, 0, 0, 0, 0, 0, 0, 0, 0, 0, 0, 0], [], []⟩ : LS) by kernel_rfl] at hF
      have HA18 := Lib.hid (HA17.out.beside hC HD.out)
      have HB18 := Lib.hid hF
      have Ovi := Lib.hid (Ovi.out.kept hC)
      have Ovj := Lib.hid (Ovj.out.kept hC)
      clear hC hF
      have Ovk := Lib.hid ho
      clear ho
      go_wp2_with (first | fail | (go_at_call 11; go_in))
      refine (sameInts_any vi _ [1, 4] [1, 4] _ (Ovi.out.calm ((Chg.refl [] w18).alloc _)).ints (IsInts.of_blk (ts := [1, 4]) (heap_alloc_eq w18 (.cells #[.int .i64 1, .int .i64 4] 3))) (by simp) (by simp)).mono ?_
      rintro e w19 ⟨rfl, hC⟩
      rw [show decide (([1, 4] : List Int) = [1, 4]) = true from by decide]
      have hC := ((Chg.refl [] w18).alloc (.cells #[.int .i64 1, .int .i64 4] 3)).trans hC
      have hF := HB18.out.calm hC
      have HA19 := Lib.hid (HA18.out.calm hC)
      have HB19 := Lib.hid hF
      have Ovi := Lib.hid (Ovi.out.calm hC)
      have Ovj := Lib.hid (Ovj.out.calm hC)
      have Ovk := Lib.hid (Ovk.out.calm hC)
      clear hC hF
      go_wp2_with (first | fail | (go_at_call 11; go_in))
      refine (sameInts_any vj _ [3] [3] _ (Ovj.out.calm ((Chg.refl [] w19).alloc _)).ints (IsInts.of_blk (ts := [3]) (heap_alloc_eq w19 (.cells #[.int .i64 3] 3))) (by simp) (by simp)).mono ?_
      rintro e w20 ⟨rfl, hC⟩
      rw [show decide (([3] : List Int) = [3]) = true from by decide]
      have hC := ((Chg.refl [] w19).alloc (.cells #[.int .i64 3] 3)).trans hC
      have hF := HB19.out.calm hC
      have HA20 := Lib.hid (HA19.out.calm hC)
      have HB20 := Lib.hid hF
      have Ovi := Lib.hid (Ovi.out.calm hC)
      have Ovj := Lib.hid (Ovj.out.calm hC)
      have Ovk := Lib.hid (Ovk.out.calm hC)
      clear hC hF
      go_wp2_with (first | fail | (go_at_call 11; go_in))
      refine (sameInts_any vk _ [2] [2] _ (Ovk.out.calm ((Chg.refl [] w20).alloc _)).ints (IsInts.of_blk (ts := [2]) (heap_alloc_eq w20 (.cells #[.int .i64 2] 3))) (by simp) (by simp)).mono ?_
      rintro e w21 ⟨rfl, hC⟩
      rw [show decide (([2] : List Int) = [2]) = true from by decide]
      have hC := ((Chg.refl [] w20).alloc (.cells #[.int .i64 2] 3)).trans hC
      have hF := HB20.out.calm hC
      have HA21 := Lib.hid (HA20.out.calm hC)
      have HB21 := Lib.hid hF
      have Ovi := Lib.hid (Ovi.out.calm hC)
      have Ovj := Lib.hid (Ovj.out.calm hC)
      have Ovk := Lib.hid (Ovk.out.calm hC)
      clear hC hF
      go_wp2_with (first | fail | (go_at_call 11; go_in))
      refine (nothing15 none w21 (.inl rfl)).mono ?_
      rintro e w22 ⟨rfl, hC⟩
      have HA22 := Lib.hid (HA21.out.calm hC)
      clear hC
      go_wp2_with fail
      refine (nothing15 (some ⟨w22.heap.size, 0, none⟩) _ (.inr ⟨w22.heap.size, rfl, heap_alloc_eq w22 (.cells #[.int .i64 0, .map none, .pointer none, .pointer none] 49)⟩)).mono ?_
      rintro e w23 ⟨rfl, hC⟩
      have HA23 := Lib.hid (HA22.out.calm (((Chg.refl [] w22).alloc (.cells #[.int .i64 0, .map none, .pointer none, .pointer none] 49)).trans hC))
      clear hC
      go_wp2_with fail
      refine (nsame10 cb rb a0 m0 a1 m1 _ _ w23 HA23.out.l).mono ?_
      rintro e w24 ⟨rfl, rfl⟩
      go_wp2_with fail
      refine (known15 _).mono ?_
      rintro e w24 ⟨rfl, hC⟩
      have HZ := Lib.hid (HA23.out.c.trans hC)
      clear hC
      go_wp2
      go_ret
      exact ⟨rfl, HZ.out⟩

end Go.Proofs.Ytpdfeinbbjfcaaa
