
/- metronomelaw15.stands: the two tell the same. -/
import Derived.Test.YtpdfeinbbjfcaaaGreatKh
namespace Go.Proofs.YtpdfeinbbjfcaaaGreat
open Go.RowKit

theorem cnt_out {s : LS} (h : LOk s) {t : Int} (ht : t < 0 ∨ 16 ≤ t) : s.cnt t = 0 := by
  unfold LS.cnt cntC
  split
  · rw [cAt_ge (by have := h.len; omega)]
  · rfl
theorem wr_val {s : LS} (h : LOk s) : (s.wr = -1 ∧ decide (0 ≤ s.wr) = false) ∨ (s.wr ≠ -1 ∧ decide (0 ≤ s.wr) = true) := by
  have := h.wr
  unfold okT at this
  by_cases h1 : s.wr = -1
  · left; simp [h1]
  · right; refine ⟨h1, ?_⟩; simp; omega
theorem ordT_few {L : WL} (h : ListOk L) : (ordT L).length < 4611686018427387904 := by
  unfold ordT
  rw [List.length_map, ordT_len h]
  have := h.few
  omega

theorem sameInts_eq (v u : Value) (l : List Int) (w : World) (hv : IsInts w v l) (hu : IsInts w u l) (hl : l.length < 4611686018427387904) :
    Calls Tryz.prog 22 #[v, u] w fun e w' => e = .returned (.bool true) ∧ Chg [] w w' := by
  have h := sameInts_any v u l l w hv hu hl hl
  rwa [decide_eq_true (rfl : l = l)] at h

set_option maxRecDepth 100000 in
set_option maxHeartbeats 4000000 in
theorem kstandsc (cb rb a0 m0 a1 m1 rc rr rw : Nat) (N : Int) (s : LS) (w : World) (h : LAt w cb rb a0 m0 a1 m1 N s) (d : DAt w rc rr rw s) :
    Calls Tryz.prog 8 #[.pointer (some ⟨cb, 0, none⟩), .pointer (some ⟨rc, 0, none⟩)] w fun e w' => e = .returned (.bool true) ∧ Chg [] w w' := by
  have H := Lib.hid (And.intro h d)
  have hW := lwriterc cb rb a0 m0 a1 m1 N s w h
  obtain ⟨wv, hwv⟩ : ∃ x, x = (if s.wr = -1 then (0 : Int) else s.wr) := ⟨_, rfl⟩
  obtain ⟨bw, hbw⟩ : ∃ x, x = !decide (s.wr = -1) := ⟨_, rfl⟩
  rw [← hwv, ← hbw] at hW
  have hwr : (bw = false ∧ wv = 0 ∧ decide (0 ≤ s.wr) = false) ∨ (bw = true ∧ (wv != s.wr) = false ∧ decide (0 ≤ s.wr) = true) := by
    rcases wr_val h.inv.ok with ⟨h1, h2⟩ | ⟨h1, h2⟩
    · left; exact ⟨by rw [hbw]; simp [h1], by rw [hwv, if_pos h1], h2⟩
    · right; exact ⟨by rw [hbw]; simp [h1], by rw [hwv, if_neg h1]; simp, h2⟩
  have hH := fun (W : World) (hW : Chg [] w W) => lheldc cb rb a0 m0 a1 m1 N s W (h.calm hW)
  have hG := fun (W : World) (hW : Chg [] w W) => dheldc rc rr rw s W (d.calm hW)
  generalize s.held = hb at hH hG
  have q0 : (!hb == hb) = false := by cases hb <;> rfl
  have q0' : (hb != hb) = false := by cases hb <;> rfl
  have HW := Lib.hid hW
  have HH := Lib.hid hH
  have HG := Lib.hid hG
  clear h d hW hwv hbw hH hG
  rcases hwr with ⟨rfl, rfl, g1⟩ | ⟨rfl, g2, g1⟩
  all_goals as_aux_lemma =>
    go_enter Tryz.func8, Tryz.ntmps8
    go_wp2_with fail
    refine HW.out.mono ?_
    rintro e w1 ⟨rfl, hC⟩
    have d0 := (H.out.2.calm hC).c0
    have H1 := Lib.hid hC
    clear hC
    go_wp2_with fail
    refine (HH.out w1 H1.out).mono ?_
    rintro e w2 ⟨rfl, hC⟩
    have H2 := Lib.hid (H1.out.trans hC)
    clear hC d0
    go_wp2_with fail
    refine (HG.out w2 H2.out).mono ?_
    rintro e w3 ⟨rfl, rfl⟩
    go_wp2
    clear q0 q0'
    go_loopw [7] (fun i wr => ∃ k : Nat, k ≤ 18 ∧ i = .int .i64 ((k : Int) - 1) ∧ Chg [] w wr) (fun i _ => (17 - intOf i).toNat)
    case atStart => exact ⟨0, by omega, rfl, H2.out⟩
    case round =>
      obtain ⟨k, hk, rfl, hC⟩ := hrel
      have H3 := Lib.hid hC
      clear hC
      by_cases hlt : k < 18
      · go_wp2_with fail
        refine (lwaitingc cb rb a0 m0 a1 m1 N s ((k : Int) - 1) wr (H.out.1.calm H3.out)).mono ?_
        rintro e w3 ⟨rfl, hC⟩
        have H4 := Lib.hid (H3.out.trans hC)
        clear hC
        go_wp2_with fail
        refine (dwaitingc rc rr rw s ((k : Int) - 1) w3 (H.out.2.calm H4.out)).mono ?_
        rintro e w4 ⟨rfl, rfl⟩
        generalize hasR s.W ((k : Int) - 1) = b
        generalize s.is ((k : Int) - 1) = c
        have hb1 : (!b == b) = false := by cases b <;> rfl
        have hb2 : (b != b) = false := by cases b <;> rfl
        have hc1 : (!c == c) = false := by cases c <;> rfl
        have hc2 : (c != c) = false := by cases c <;> rfl
        have hR := lreads_same cb rb a0 m0 a1 m1 N s ((k : Int) - 1) w3 (H.out.1.calm H4.out)
        by_cases hin : 1 ≤ k ∧ k ≤ 16
        · have hcc := (H.out.2.calm H4.out).cC (k := k - 1) (by omega)
          have hcnt : s.cnt ((k : Int) - 1) = cAt s.C (k - 1) := by unfold LS.cnt cntC; rw [if_pos (by omega), show ((k : Int) - 1).toNat = k - 1 by omega]
          rw [hcnt] at hR
          generalize cAt s.C (k - 1) = n at *
          have hnn : (n != n) = false := by simp
          obtain ⟨j, rfl⟩ : ∃ j, k = j + 1 := ⟨k - 1, by omega⟩
          rw [show j + 1 - 1 = j by omega] at hcc
          have hj : ((j + 1 : Nat) : Int) - 1 = (j : Int) := by omega
          rw [hj] at hR ⊢
          have hj16 : j < 16 := by omega
          have HR := Lib.hid hR
          clear hin hcnt hj hk hR
          go_wp2_with fail
          refine HR.out.mono ?_
          rintro e w5 ⟨rfl, rfl⟩
          go_wp2
          go_roundw
          case rel => exact ⟨j + 2, by omega, by first | go_num | (congr 1; omega), H4.out⟩
          case measure => simp [intOf]; omega
        · have hcnt : s.cnt ((k : Int) - 1) = 0 := cnt_out H.out.1.inv.ok (by omega)
          rw [hcnt] at hR
          have hk2 : k = 0 ∨ k = 17 := by omega
          have HR := Lib.hid hR
          clear hin hcnt hk hR
          rcases hk2 with rfl | rfl
          all_goals
            go_wp2_with fail
            refine HR.out.mono ?_
            rintro e w5 ⟨rfl, rfl⟩
            go_wp2
            go_roundw
            case rel => first | exact ⟨1, by omega, by first | go_num | rfl, H4.out⟩ | exact ⟨18, by omega, by first | go_num | rfl, H4.out⟩
            case measure => simp [intOf]
      · obtain rfl : k = 18 := by omega
        have c17 := (H.out.2.calm H3.out).c17
        have c18 := (H.out.2.calm H3.out).c18
        have HR1 := Lib.hid (lreadersc cb rb a0 m0 a1 m1 N s wr.drew ((H.out.1.calm H3.out).calm (Chg.refl [] wr).drew))
        clear hk hlt
        go_wp2
        go_region_held3 (fun w' => w'.cell? ⟨rc, 17, none⟩ = some (.pointer (some ⟨rr, 0, none⟩)) ∧ w'.cell? ⟨rc, 18, none⟩ = some (.pointer (some ⟨rw, 0, none⟩))) (first | exact ⟨c17, c18⟩ | exact ⟨x0, x1⟩ | exact ⟨y0, y1⟩ | exact ⟨z0, z1⟩ | exact ⟨u0, u1⟩ | exact ⟨v0, v1⟩ | exact ⟨t0, t1⟩)
          (first
          | (go_at_call 22; refine HS2.out.mono ?_; rintro e w8 ⟨rfl, hC⟩; have H9 := Lib.hid (H8.out.trans hC); clear hC; have t0 := (H.out.2.calm H9.out).c17; have t1 := (H.out.2.calm H9.out).c18)
          | (go_at_call 35; (with_reducible refine HR4.out.mono ?_); rintro e w7 ⟨p4, rfl, ho, hC⟩; have HO4 := Lib.hid (And.intro (IsInts.of_own (own_kept HO3.out hC (by simp))) (IsInts.of_own ho)); have H8 := Lib.hid (H7.out.trans hC); clear hC ho; have v0 := (H.out.2.calm H8.out).c17; have v1 := (H.out.2.calm H8.out).c18; have HS2 := Lib.hid (sameInts_eq p3 p4 (ordT s.W) w7 HO4.out.1 HO4.out.2 (ordT_few H.out.1.inv.w)))
          | (go_at_call 36; (with_reducible refine HR3.out.mono ?_); rintro e w6 ⟨p3, rfl, ho, hC⟩; have HO3 := Lib.hid ho; have H7 := Lib.hid (H6.out.trans hC); clear hC ho; have u0 := (H.out.2.calm H7.out).c17; have u1 := (H.out.2.calm H7.out).c18; have HR4 := Lib.hid (rlistc rw s.W w6 (H.out.2.calm H7.out).wt (by have := H.out.1.inv.w.few; omega) H.out.1.inv.w))
          | (go_at_call 22; refine HS1.out.mono ?_; rintro e w5 ⟨rfl, hC⟩; have H6 := Lib.hid (H5.out.trans hC); clear hC; have z0 := (H.out.2.calm H6.out).c17; have z1 := (H.out.2.calm H6.out).c18; have HR3 := Lib.hid (lwritersc cb rb a0 m0 a1 m1 N s w5 (H.out.1.calm H6.out)))
          | (go_at_call 35; (with_reducible refine HR2.out.mono ?_); rintro e w4 ⟨p2, rfl, ho, hC⟩; have HO2 := Lib.hid (And.intro (IsInts.of_own (own_kept HO1.out hC (by simp))) (IsInts.of_own ho)); have H5 := Lib.hid (H4.out.trans hC); clear hC ho; have y0 := (H.out.2.calm H5.out).c17; have y1 := (H.out.2.calm H5.out).c18; have HS1 := Lib.hid (sameInts_eq p1 p2 (ordT s.R) w4 HO2.out.1 HO2.out.2 (ordT_few H.out.1.inv.r)))
          | (go_at_call 34; (with_reducible refine HR1.out.mono ?_); rintro e w3 ⟨p1, rfl, ho, hC⟩; have HO1 := Lib.hid ho; have H4 := Lib.hid (H3.out.trans ((Chg.refl [] wr).drew.trans hC)); clear hC ho; have x0 := (H.out.2.calm H4.out).c17; have x1 := (H.out.2.calm H4.out).c18; have HR2 := Lib.hid (rlistc rr s.R w3 (H.out.2.calm H4.out).rd (by have := H.out.1.inv.r.few; omega) H.out.1.inv.r))
          | fail)
        go_wp2
        go_ret
        exact ⟨rfl, H9.out⟩

end Go.Proofs.YtpdfeinbbjfcaaaGreat
