
/- metronomelaw13.MutexCounts answers true. -/
import Derived.Test.YtagnobmdcchcaaaL13known
namespace Go.Proofs.Ytagnobmdcchcaaa
open Go.RowKit

/-- Behind j tries of thread 1. -/
def cst (k : Int) (j : Nat) : MS := if j = 0 then mnew k 0 0 false else ⟨k, 0, 0, false, 1, if k = 2 then j else 1, 0, []⟩
/-- Thread 1 owns it c times, thread 2 waits. -/
def cwt (k c : Int) : MS := ⟨k, 0, 0, false, 1, c, 0, [(2, 5)]⟩

theorem cst_try0 (k : Int) : (cst k 0).tryE 1 5 = 0 ∧ (cst k 0).tryS 1 5 = cst k 1 := by
  constructor
  · simp [cst, mnew, MS.tryE, MS.askE, MS.may, MS.free, MS.told, thB, prB, hasR]
  · simp [cst, mnew, MS.tryS, MS.askE, MS.askS, MS.took, MS.may, MS.free, MS.told, thB, prB, hasR]
theorem cst_ask (k : Int) (j : Nat) (t : Int) (ht : okT t) (h1 : 1 ≤ j) : (cst k j).askE t 5 = 16 := by
  have : j ≠ 0 := by omega
  have hb : thB t = true := thB_iff.2 ht
  simp [cst, this, MS.askE, MS.may, MS.free, hb, prB, hasR]
theorem cst_try2 (j : Nat) (h1 : 1 ≤ j) (h2 : j ≤ 1000) : (cst 2 j).tryE 1 5 = 0 ∧ (cst 2 j).tryS 1 5 = cst 2 (j + 1) := by
  have ha := cst_ask 2 j 1 (by unfold okT; omega) h1
  have h0 : j ≠ 0 := by omega
  have h3 : ¬ (32767 : Int) ≤ (j : Int) := by omega
  unfold MS.tryE MS.tryS
  rw [ha]
  constructor
  · simp [cst, h0, h3]
  · simp [cst, h0, h3]
theorem cst_tryN (k : Int) (hk : k ≠ 2) (j : Nat) (h1 : 1 ≤ j) : (cst k j).tryE 1 5 = 16 ∧ (cst k j).tryS 1 5 = cst k (j + 1) := by
  have ha := cst_ask k j 1 (by unfold okT; omega) h1
  have h0 : j ≠ 0 := by omega
  have hs := MS.askS_wait ha
  unfold MS.tryE MS.tryS
  rw [ha, hs]
  constructor
  · simp [cst, h0, hk]
  · simp [cst, h0, hk]
theorem cst_lock (k : Int) (j : Nat) (h1 : 1 ≤ j) : (cst k j).lockS 2 5 5 = cwt k (if k = 2 then j else 1) := by
  have ha := cst_ask k j 2 (by unfold okT; omega) h1
  have h0 : j ≠ 0 := by omega
  unfold MS.lockS
  rw [ha]
  simp [cst, h0, prB, cwt, putL, askR]
theorem cwt_un (k c : Int) (h : 1 < c) : (cwt k c).unE 1 = 0 ∧ (cwt k c).unS 1 = cwt k (c - 1) := by
  simp [cwt, MS.unE, MS.unS, thB, h]
theorem cwt_un1 (k : Int) : (cwt k 1).unE 1 = 0 ∧ (cwt k 1).unS 1 = ⟨k, 0, 0, false, 2, 1, 0, []⟩ := ⟨by simp [cwt, MS.unE, thB], rfl⟩

set_option maxRecDepth 100000 in
set_option maxHeartbeats 4000000 in
theorem mutexCounts_any (k times : Int) (w : World) :
    Calls Try.prog 4 #[.int .i64 k, .int .i64 times] w fun e w' => e = .returned (.bool true) ∧ Chg [] w w' := by
  by_cases hb : mnewB k 0 0 = true
  · have HB := Lib.hid hb
    by_cases ht1 : times < 1
    · have d1 : decide (times < 1) = true := decide_eq_true ht1
      clear hb ht1
      go_enter Try.func4, Try.ntmps4
      go_wp2_with fail
      refine (fnewF k 0 0 false w w (Chg.refl _ _) HB.out).mono ?_
      rintro e w0 ⟨cb, ab, mb, rfl, hF, hC⟩
      have H0 := Lib.hid hC
      clear hF hC
      go_wp2_with fail
      refine (known13 w0).mono ?_
      rintro e w1 ⟨rfl, hC⟩
      have H1 := Lib.hid (H0.out.trans hC)
      clear hC
      go_wp2
      go_ret
      exact ⟨rfl, H1.out⟩
    · by_cases ht2 : 1000 < times
      · have d1 : decide (times < 1) = false := decide_eq_false ht1
        have d2 : decide (1000 < times) = true := decide_eq_true ht2
        clear hb ht1 ht2
        go_enter Try.func4, Try.ntmps4
        go_wp2_with fail
        refine (fnewF k 0 0 false w w (Chg.refl _ _) HB.out).mono ?_
        rintro e w0 ⟨cb, ab, mb, rfl, hF, hC⟩
        have H0 := Lib.hid hC
        clear hF hC
        go_wp2_with fail
        refine (known13 w0).mono ?_
        rintro e w1 ⟨rfl, hC⟩
        have H1 := Lib.hid (H0.out.trans hC)
        clear hC
        go_wp2
        go_ret
        exact ⟨rfl, H1.out⟩
      · obtain ⟨n, rfl⟩ : ∃ n : Nat, times = n := ⟨times.toNat, by omega⟩
        have d1 : decide ((n : Int) < 1) = false := decide_eq_false ht1
        have d2 : decide (1000 < (n : Int)) = false := decide_eq_false ht2
        have hn1 : 1 ≤ n := by omega
        have hn2 : n ≤ 1000 := by omega
        clear hb ht1 ht2
        go_enter Try.func4, Try.ntmps4
        go_wp2_with fail
        refine (fnewF k 0 0 false w w (Chg.refl _ _) HB.out).mono ?_
        rintro e w0 ⟨cb, ab, mb, rfl, hF, hC⟩
        have H0 := Lib.hid hF
        clear hF hC
        go_wp2
        clear d1 d2
        go_loopw [7] (fun i wr => ∃ j : Nat, j ≤ n ∧ i = .int .i64 j ∧ FM w wr cb ab mb 0 (cst k j)) (fun i _ => n - (intOf i).toNat)
        case atStart => exact ⟨0, by omega, rfl, H0.out⟩
        case round =>
          obtain ⟨j, hj, rfl, hF⟩ := hrel
          by_cases hlt : j < n
          · have hcase : j = 0 ∨ (1 ≤ j ∧ k = 2) ∨ (1 ≤ j ∧ k ≠ 2) := by omega
            have hcnt : 0 ≤ (cst k j).cnt := by unfold cst mnew; split <;> simp; split <;> omega
            have hT := ftryF 1 5 hF hcnt
            have HK := Lib.hid hF
            clear hF hcnt
            rcases hcase with rfl | ⟨h1, rfl⟩ | ⟨h1, h2⟩
            · rw [(cst_try0 k).1, (cst_try0 k).2] at hT
              have HT := Lib.hid hT
              clear hT
              go_wp2_with fail
              refine HT.out.mono ?_
              rintro e w1 ⟨rfl, hF⟩
              have H1 := Lib.hid hF
              clear hF
              go_wp2
              go_roundw
              case rel => exact ⟨1, by omega, by go_num, H1.out⟩
              case measure => simp [intOf]; omega
            · rw [(cst_try2 j h1 (by omega)).1, (cst_try2 j h1 (by omega)).2] at hT
              have HT := Lib.hid hT
              have hp : 0 < j := h1
              clear hT
              go_wp2_with fail
              refine HT.out.mono ?_
              rintro e w1 ⟨rfl, hF⟩
              have H1 := Lib.hid hF
              clear hF
              go_wp2
              go_roundw
              case rel => exact ⟨j + 1, by omega, by go_num, H1.out⟩
              case measure => simp [intOf]; omega
            · rw [(cst_tryN k h2 j h1).1, (cst_tryN k h2 j h1).2] at hT
              have HT := Lib.hid hT
              have hp : 0 < j := h1
              have hk : (k != 2) = true := by simpa using h2
              clear hT h2
              go_wp2_with fail
              refine HT.out.mono ?_
              rintro e w1 ⟨rfl, hF⟩
              have H1 := Lib.hid hF
              clear hF
              go_wp2
              go_roundw
              case rel => exact ⟨j + 1, by omega, by go_num, H1.out⟩
              case measure => simp [intOf]; omega
          · obtain rfl : j = n := by omega
            obtain ⟨c, hc⟩ : ∃ c : Nat, (c : Int) = if k = 2 then (j : Int) else 1 := by
              by_cases h : k = 2
              · exact ⟨j, by rw [if_pos h]⟩
              · exact ⟨1, by rw [if_neg h]; rfl⟩
            have hcnt : 0 ≤ (cst k j).cnt := by unfold cst mnew; split <;> simp; split <;> omega
            have hL := flockF 2 5 5 hF (by omega) hcnt
            rw [cst_lock k j hn1, ← hc] at hL
            have hc1 : 1 ≤ c ∧ c ≤ j ∧ (k = 2 → c = j) ∧ (k ≠ 2 → c = 1) := by
              by_cases h : k = 2
              · rw [if_pos h] at hc; omega
              · rw [if_neg h] at hc; omega
            obtain ⟨hc1, hc2, hc3, hc4⟩ := hc1
            have HL := Lib.hid hL
            clear hL hcnt hc hF
            go_wp2_with fail
            refine HL.out.mono ?_
            rintro e w1 ⟨rfl, hF⟩
            have H1 := Lib.hid hF
            clear hF
            go_wp2
            have hstop : (∃ i : Nat, i < c ∧ FM w w1 cb ab mb 1 (cwt k (c - i)) ∧ i = 0) := ⟨0, by omega, by simpa using H1.out, rfl⟩
            go_loopw [10] (fun i wr => ∃ z : Nat, i = .int .i64 z ∧ ((z < c ∧ FM w wr cb ab mb 1 (cwt k ((c : Int) - z))) ∨ (z = c ∧ FM w wr cb ab mb 1 ⟨k, 0, 0, false, 2, 1, 0, []⟩))) (fun i _ => c + 1 - (intOf i).toNat)
            case atStart => obtain ⟨i, h1, h2, rfl⟩ := hstop; exact ⟨0, rfl, .inl ⟨h1, h2⟩⟩
            case round =>
              clear hstop
              obtain ⟨z, rfl, ⟨hz, hF⟩ | ⟨rfl, hF⟩⟩ := hrel
              · have hA := fatF hF
                rw [show (cwt k ((c : Int) - z)).own = 1 from rfl] at hA
                have HA := Lib.hid hA
                have hzc : (z : Int) < (c : Int) := by omega
                have hzt : ¬ (j : Int) < (z : Int) := by omega
                clear hA hF
                go_wp2_with fail
                refine HA.out.mono ?_
                rintro e w2 ⟨rfl, hF, hC⟩
                have hU := funlockF 1 hF (show (c : Int) - z ≤ 32767 by omega)
                by_cases hl : z + 1 < c
                · rw [(cwt_un k ((c : Int) - z) (by omega)).1, (cwt_un k ((c : Int) - z) (by omega)).2] at hU
                  have HU := Lib.hid hU
                  clear hU hF hC
                  go_wp2_with fail
                  refine HU.out.mono ?_
                  rintro e w3 ⟨v, rfl, hO, hF, hC⟩
                  have H3 := Lib.hid hF
                  clear hO hF hC
                  go_wp2
                  go_roundw
                  case rel => exact ⟨z + 1, by go_num, .inl ⟨hl, by rw [show ((c : Int) - ((z + 1 : Nat) : Int)) = (c : Int) - z - 1 by omega]; exact H3.out⟩⟩
                  case measure => simp [intOf]; omega
                · have he : (c : Int) - z = 1 := by omega
                  rw [he, (cwt_un1 k).1, (cwt_un1 k).2] at hU
                  have HU := Lib.hid hU
                  clear hU hF hC
                  go_wp2_with fail
                  refine HU.out.mono ?_
                  rintro e w3 ⟨v, rfl, hO, hF, hC⟩
                  have H3 := Lib.hid hF
                  clear hO hF hC
                  go_wp2
                  go_roundw
                  case rel => exact ⟨z + 1, by go_num, .inr ⟨by omega, H3.out⟩⟩
                  case measure => simp [intOf]; omega
              · have HA := Lib.hid (fatF hF)
                clear hF
                have hcase : k = 2 ∨ k ≠ 2 := by omega
                rcases hcase with hk | hk
                · have hcj := hc3 hk
                  subst hcj
                  have q1 : ((z : Int) == (z : Int)) = true := by simp
                  clear hc3 hc4 hk
                  go_wp2_with fail
                  refine HA.out.mono ?_
                  rintro e w2 ⟨rfl, hF, hC⟩
                  have HA2 := Lib.hid (fatF hF)
                  clear hF hC
                  go_wp2_with fail
                  refine HA2.out.mono ?_
                  rintro e w3 ⟨rfl, hF, hC⟩
                  have H3 := Lib.hid hF.c
                  clear hF hC
                  go_wp2_with fail
                  refine (known13 w3).mono ?_
                  rintro e w4 ⟨rfl, hC⟩
                  have H4 := Lib.hid (H3.out.trans hC)
                  clear hC
                  go_wp2
                  go_ret
                  exact ⟨rfl, H4.out⟩
                · have hcj := hc4 hk
                  subst hcj
                  have q2 : (k != 2) = true := by simpa using hk
                  have q3 : (((1 : Nat) : Int) == 1) = true := by simp
                  have q5 : j = 1 ∨ j ≠ 1 := by omega
                  clear hc3 hc4 hk
                  rcases q5 with rfl | q5
                  · go_wp2_with fail
                    refine HA.out.mono ?_
                    rintro e w2 ⟨rfl, hF, hC⟩
                    have HA2 := Lib.hid (fatF hF)
                    clear hF hC
                    go_wp2_with fail
                    refine HA2.out.mono ?_
                    rintro e w3 ⟨rfl, hF, hC⟩
                    have H3 := Lib.hid hF.c
                    clear hF hC
                    go_wp2_with fail
                    refine (known13 w3).mono ?_
                    rintro e w4 ⟨rfl, hC⟩
                    have H4 := Lib.hid (H3.out.trans hC)
                    clear hC
                    go_wp2
                    go_ret
                    exact ⟨rfl, H4.out⟩
                  · have q4 : (((1 : Nat) : Int) == (j : Int)) = false := by simp; omega
                    go_wp2_with fail
                    refine HA.out.mono ?_
                    rintro e w2 ⟨rfl, hF, hC⟩
                    have HA2 := Lib.hid (fatF hF)
                    clear hF hC
                    go_wp2_with fail
                    refine HA2.out.mono ?_
                    rintro e w3 ⟨rfl, hF, hC⟩
                    have H3 := Lib.hid hF.c
                    clear hF hC
                    go_wp2_with fail
                    refine (known13 w3).mono ?_
                    rintro e w4 ⟨rfl, hC⟩
                    have H4 := Lib.hid (H3.out.trans hC)
                    clear hC
                    go_wp2
                    go_ret
                    exact ⟨rfl, H4.out⟩
  · have hb' : mnewB k 0 0 = false := by simpa using hb
    have HB := Lib.hid hb'
    clear hb hb'
    go_enter Try.func4, Try.ntmps4
    go_wp2_with fail
    refine (mnew_no k 0 0 false w HB.out).mono ?_
    rintro e w0 ⟨rfl, rfl⟩
    go_wp2_with fail
    refine (known13 w).mono ?_
    rintro e w1 ⟨rfl, hC⟩
    have H1 := Lib.hid hC
    clear hC
    go_wp2
    go_ret
    exact ⟨rfl, H1.out⟩

end Go.Proofs.Ytagnobmdcchcaaa
