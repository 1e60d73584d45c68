
/- Package mutex: ask, Lock, Try, Consistent, Leave, Change, Ceil: contracts (written by wip/mutb.py). -/
import Derived.Test.YtagnobmdcchcaaaMa
namespace Go.Proofs.Ytagnobmdcchcaaa
open Go.RowKit

def cellsOf (ab : Nat) (s : MS) := mcells ab s

set_option maxRecDepth 100000 in
set_option maxHeartbeats 1000000 in
theorem maskc (cb ab mb : Nat) (N : Int) (s : MS) (t b : Int) (w : World) (h : MAt w cb ab mb N s) :
    Calls Try.prog 33 #[.pointer (some ⟨cb, 0, none⟩), .int .i64 t, .int .i64 b] w fun e w' => e = .returned (.int .i64 (s.askE t b)) ∧ MAt w' cb ab mb N (s.askS t b) ∧ Chg [cb] w w' := by
  have c7 := cellB h.head (i := 7) (v := .pointer (some ⟨ab, 0, none⟩)) rfl
  have HI := Lib.hid (misc cb ab mb N s w h)
  have HH := Lib.hid (hasc ab mb N s.L t w h.list)
  have HM := Lib.hid h
  clear h
  have hcase : thB t = false ∨ (thB t = true ∧ prB b = false) ∨ (thB t = true ∧ prB b = true ∧ hasR s.L t = true) ∨ (thB t = true ∧ prB b = true ∧ hasR s.L t = false ∧ s.p = 2 ∧ s.c < b) ∨
      ((thB t = true ∧ prB b = true ∧ hasR s.L t = false) ∧ (s.p ≠ 2 ∨ (s.p = 2 ∧ ¬ s.c < b))) := by
    cases thB t <;> cases prB b <;> cases hasR s.L t <;> simp
    by_cases h1 : s.p = 2 <;> by_cases h2 : s.c < b <;> simp [h1, h2]
    omega
  have hcase2 : s.st = 2 ∨ (s.st ≠ 2 ∧ s.own = -1 ∧ s.st ≠ 3) ∨ (s.st ≠ 2 ∧ s.own = -1 ∧ s.st = 3) ∨ (s.st ≠ 2 ∧ s.own ≠ -1) := by omega
  unfold MS.askE MS.askS MS.may MS.free
  rcases hcase with h1 | ⟨h1, h2⟩ | ⟨h1, h2, h3⟩ | ⟨h1, h2, h3, h4, h5⟩ | ⟨⟨h1, h2, h3⟩, h4⟩
  · have HT := Lib.hid h1
    rw [if_neg (by rw [h1]; simp), if_neg (by rw [h1]; simp)]
    clear h1 hcase2
    go_enter Try.func33, Try.ntmps33
    go_wp2_with (first | (go_at_call 36; refine HI.out.mono ?_; rintro e w' ⟨rfl, rfl⟩) | (go_at_call 37; refine (mthreadc t _).mono ?_; rintro e w' ⟨rfl, rfl⟩; rw [HT.out]) | (go_at_call 32; refine (mprioc b _).mono ?_; rintro e w' ⟨rfl, rfl⟩; rw [HP.out]) | (go_at_call 54; refine HH.out.mono ?_; rintro e w1 ⟨rfl, hC⟩; rw [HS.out]; have hM := HM.out.calm hC; have c1 := cellB hM.head (i := 1) (v := .int .i64 s.p) rfl; have c2 := cellB hM.head (i := 2) (v := .int .i64 s.c) rfl; have c4 := cellB hM.head (i := 4) (v := .int .i64 s.own) rfl; have c6 := cellB hM.head (i := 6) (v := .int .i64 s.st) rfl; have HC := Lib.hid (And.intro hM hC); clear hM hC) | (go_at_call 55; refine (mtakec cb ab mb N s t _ HC.out.1).mono ?_; rintro e w2 ⟨rfl, hM, hC2⟩; have HK := Lib.hid (And.intro hM hC2); clear hM hC2))
    go_ret
    exact ⟨rfl, HM.out, Chg.refl _ _⟩
  · have HT := Lib.hid h1
    have HP := Lib.hid h2
    rw [if_neg (by rw [h2]; simp), if_neg (by rw [h2]; simp)]
    clear h1 h2 hcase2
    go_enter Try.func33, Try.ntmps33
    go_wp2_with (first | (go_at_call 36; refine HI.out.mono ?_; rintro e w' ⟨rfl, rfl⟩) | (go_at_call 37; refine (mthreadc t _).mono ?_; rintro e w' ⟨rfl, rfl⟩; rw [HT.out]) | (go_at_call 32; refine (mprioc b _).mono ?_; rintro e w' ⟨rfl, rfl⟩; rw [HP.out]) | (go_at_call 54; refine HH.out.mono ?_; rintro e w1 ⟨rfl, hC⟩; rw [HS.out]; have hM := HM.out.calm hC; have c1 := cellB hM.head (i := 1) (v := .int .i64 s.p) rfl; have c2 := cellB hM.head (i := 2) (v := .int .i64 s.c) rfl; have c4 := cellB hM.head (i := 4) (v := .int .i64 s.own) rfl; have c6 := cellB hM.head (i := 6) (v := .int .i64 s.st) rfl; have HC := Lib.hid (And.intro hM hC); clear hM hC) | (go_at_call 55; refine (mtakec cb ab mb N s t _ HC.out.1).mono ?_; rintro e w2 ⟨rfl, hM, hC2⟩; have HK := Lib.hid (And.intro hM hC2); clear hM hC2))
    go_ret
    exact ⟨rfl, HM.out, Chg.refl _ _⟩
  · have HT := Lib.hid h1
    have HP := Lib.hid h2
    have HS := Lib.hid h3
    rw [if_neg (by rw [h3]; simp), if_neg (by rw [h3]; simp)]
    clear h1 h2 h3 hcase2
    go_enter Try.func33, Try.ntmps33
    go_wp2_with (first | (go_at_call 36; refine HI.out.mono ?_; rintro e w' ⟨rfl, rfl⟩) | (go_at_call 37; refine (mthreadc t _).mono ?_; rintro e w' ⟨rfl, rfl⟩; rw [HT.out]) | (go_at_call 32; refine (mprioc b _).mono ?_; rintro e w' ⟨rfl, rfl⟩; rw [HP.out]) | (go_at_call 54; refine HH.out.mono ?_; rintro e w1 ⟨rfl, hC⟩; rw [HS.out]; have hM := HM.out.calm hC; have c1 := cellB hM.head (i := 1) (v := .int .i64 s.p) rfl; have c2 := cellB hM.head (i := 2) (v := .int .i64 s.c) rfl; have c4 := cellB hM.head (i := 4) (v := .int .i64 s.own) rfl; have c6 := cellB hM.head (i := 6) (v := .int .i64 s.st) rfl; have HC := Lib.hid (And.intro hM hC); clear hM hC) | (go_at_call 55; refine (mtakec cb ab mb N s t _ HC.out.1).mono ?_; rintro e w2 ⟨rfl, hM, hC2⟩; have HK := Lib.hid (And.intro hM hC2); clear hM hC2))
    go_ret
    exact ⟨rfl, HC.out.1, HC.out.2.mono (by simp)⟩
  · have HT := Lib.hid h1
    have HP := Lib.hid h2
    have HS := Lib.hid h3
    rw [if_neg (by rw [h4, decide_eq_true h5]; simp), if_neg (by rw [h4, decide_eq_true h5]; simp)]
    have q1 : (s.p == 2) = true := by simpa using h4
    have q2 : decide (s.c < b) = true := decide_eq_true h5
    clear h1 h2 h3 h4 h5 hcase2
    go_enter Try.func33, Try.ntmps33
    go_wp2_with (first | (go_at_call 36; refine HI.out.mono ?_; rintro e w' ⟨rfl, rfl⟩) | (go_at_call 37; refine (mthreadc t _).mono ?_; rintro e w' ⟨rfl, rfl⟩; rw [HT.out]) | (go_at_call 32; refine (mprioc b _).mono ?_; rintro e w' ⟨rfl, rfl⟩; rw [HP.out]) | (go_at_call 54; refine HH.out.mono ?_; rintro e w1 ⟨rfl, hC⟩; rw [HS.out]; have hM := HM.out.calm hC; have c1 := cellB hM.head (i := 1) (v := .int .i64 s.p) rfl; have c2 := cellB hM.head (i := 2) (v := .int .i64 s.c) rfl; have c4 := cellB hM.head (i := 4) (v := .int .i64 s.own) rfl; have c6 := cellB hM.head (i := 6) (v := .int .i64 s.st) rfl; have HC := Lib.hid (And.intro hM hC); clear hM hC) | (go_at_call 55; refine (mtakec cb ab mb N s t _ HC.out.1).mono ?_; rintro e w2 ⟨rfl, hM, hC2⟩; have HK := Lib.hid (And.intro hM hC2); clear hM hC2))
    go_ret
    exact ⟨rfl, HC.out.1, HC.out.2.mono (by simp)⟩
  · have HT := Lib.hid h1
    have HP := Lib.hid h2
    have HS := Lib.hid h3
    have hm : (thB t && prB b && !hasR s.L t && !(decide (s.p = 2) && decide (s.c < b))) = true := by
      rw [h1, h2, h3]
      rcases h4 with h4 | ⟨h4, h5⟩
      · rw [decide_eq_false h4]; rfl
      · rw [decide_eq_false h5, Bool.and_false]; rfl
    rw [if_pos hm]
    simp only [hm, true_and]
    clear hm h1 h2 h3
    have hcase3 : (s.p == 2) = false ∨ ((s.p == 2) = true ∧ decide (s.c < b) = false) := by
      rcases h4 with h4 | ⟨h4, h5⟩
      · left; simpa using h4
      · right; exact ⟨by simpa using h4, decide_eq_false h5⟩
    clear h4
    rcases hcase2 with h6 | ⟨h6, h7, h8⟩ | ⟨h6, h7, h8⟩ | ⟨h6, h7⟩
    · rw [if_pos h6, if_neg (by simp [h6])]
      have q3 : (s.st == 2) = true := by simpa using h6
      clear h6
      rcases hcase3 with q1 | ⟨q1, q2⟩
      all_goals
        go_enter Try.func33, Try.ntmps33
        go_wp2_with (first | (go_at_call 36; refine HI.out.mono ?_; rintro e w' ⟨rfl, rfl⟩) | (go_at_call 37; refine (mthreadc t _).mono ?_; rintro e w' ⟨rfl, rfl⟩; rw [HT.out]) | (go_at_call 32; refine (mprioc b _).mono ?_; rintro e w' ⟨rfl, rfl⟩; rw [HP.out]) | (go_at_call 54; refine HH.out.mono ?_; rintro e w1 ⟨rfl, hC⟩; rw [HS.out]; have hM := HM.out.calm hC; have c1 := cellB hM.head (i := 1) (v := .int .i64 s.p) rfl; have c2 := cellB hM.head (i := 2) (v := .int .i64 s.c) rfl; have c4 := cellB hM.head (i := 4) (v := .int .i64 s.own) rfl; have c6 := cellB hM.head (i := 6) (v := .int .i64 s.st) rfl; have HC := Lib.hid (And.intro hM hC); clear hM hC) | (go_at_call 55; refine (mtakec cb ab mb N s t _ HC.out.1).mono ?_; rintro e w2 ⟨rfl, hM, hC2⟩; have HK := Lib.hid (And.intro hM hC2); clear hM hC2))
        go_ret
        exact ⟨rfl, HC.out.1, HC.out.2.mono (by simp)⟩
    · have hf : (decide (s.own = -1) && !decide (s.st = 3)) = true := by rw [decide_eq_true h7, decide_eq_false h8]; rfl
      rw [if_neg h6, if_pos hf, if_pos ⟨h6, hf⟩]
      have q3 : (s.st == 2) = false := by simpa using h6
      have q4 : (s.own == -1) = true := by simpa using h7
      have q5 : (s.st != 3) = true := by simpa using h8
      have q5' : (s.st == 3) = false := by simpa using h8
      clear h6 h7 h8 hf
      rcases hcase3 with q1 | ⟨q1, q2⟩
      all_goals
        go_enter Try.func33, Try.ntmps33
        go_wp2_with (first | (go_at_call 36; refine HI.out.mono ?_; rintro e w' ⟨rfl, rfl⟩) | (go_at_call 37; refine (mthreadc t _).mono ?_; rintro e w' ⟨rfl, rfl⟩; rw [HT.out]) | (go_at_call 32; refine (mprioc b _).mono ?_; rintro e w' ⟨rfl, rfl⟩; rw [HP.out]) | (go_at_call 54; refine HH.out.mono ?_; rintro e w1 ⟨rfl, hC⟩; rw [HS.out]; have hM := HM.out.calm hC; have c1 := cellB hM.head (i := 1) (v := .int .i64 s.p) rfl; have c2 := cellB hM.head (i := 2) (v := .int .i64 s.c) rfl; have c4 := cellB hM.head (i := 4) (v := .int .i64 s.own) rfl; have c6 := cellB hM.head (i := 6) (v := .int .i64 s.st) rfl; have HC := Lib.hid (And.intro hM hC); clear hM hC) | (go_at_call 55; refine (mtakec cb ab mb N s t _ HC.out.1).mono ?_; rintro e w2 ⟨rfl, hM, hC2⟩; have HK := Lib.hid (And.intro hM hC2); clear hM hC2))
        go_ret
        exact ⟨rfl, HK.out.1, (HC.out.2.mono (by simp)).trans HK.out.2⟩
    · have hf : ¬ (decide (s.own = -1) && !decide (s.st = 3)) = true := by rw [decide_eq_true h8]; simp
      rw [if_neg h6, if_neg hf, if_neg (fun e => hf e.2)]
      have q3 : (s.st == 2) = false := by simpa using h6
      have q4 : (s.own == -1) = true := by simpa using h7
      have q5 : (s.st != 3) = false := by simpa using h8
      have q5' : (s.st == 3) = true := by simpa using h8
      clear h6 h7 h8 hf
      rcases hcase3 with q1 | ⟨q1, q2⟩
      all_goals
        go_enter Try.func33, Try.ntmps33
        go_wp2_with (first | (go_at_call 36; refine HI.out.mono ?_; rintro e w' ⟨rfl, rfl⟩) | (go_at_call 37; refine (mthreadc t _).mono ?_; rintro e w' ⟨rfl, rfl⟩; rw [HT.out]) | (go_at_call 32; refine (mprioc b _).mono ?_; rintro e w' ⟨rfl, rfl⟩; rw [HP.out]) | (go_at_call 54; refine HH.out.mono ?_; rintro e w1 ⟨rfl, hC⟩; rw [HS.out]; have hM := HM.out.calm hC; have c1 := cellB hM.head (i := 1) (v := .int .i64 s.p) rfl; have c2 := cellB hM.head (i := 2) (v := .int .i64 s.c) rfl; have c4 := cellB hM.head (i := 4) (v := .int .i64 s.own) rfl; have c6 := cellB hM.head (i := 6) (v := .int .i64 s.st) rfl; have HC := Lib.hid (And.intro hM hC); clear hM hC) | (go_at_call 55; refine (mtakec cb ab mb N s t _ HC.out.1).mono ?_; rintro e w2 ⟨rfl, hM, hC2⟩; have HK := Lib.hid (And.intro hM hC2); clear hM hC2))
        go_ret
        exact ⟨rfl, HC.out.1, HC.out.2.mono (by simp)⟩
    · have hf : ¬ (decide (s.own = -1) && !decide (s.st = 3)) = true := by rw [decide_eq_false h7]; simp
      rw [if_neg h6, if_neg hf, if_neg (fun e => hf e.2)]
      have q3 : (s.st == 2) = false := by simpa using h6
      have q4 : (s.own == -1) = false := by simpa using h7
      clear h6 h7 hf
      rcases hcase3 with q1 | ⟨q1, q2⟩
      all_goals
        go_enter Try.func33, Try.ntmps33
        go_wp2_with (first | (go_at_call 36; refine HI.out.mono ?_; rintro e w' ⟨rfl, rfl⟩) | (go_at_call 37; refine (mthreadc t _).mono ?_; rintro e w' ⟨rfl, rfl⟩; rw [HT.out]) | (go_at_call 32; refine (mprioc b _).mono ?_; rintro e w' ⟨rfl, rfl⟩; rw [HP.out]) | (go_at_call 54; refine HH.out.mono ?_; rintro e w1 ⟨rfl, hC⟩; rw [HS.out]; have hM := HM.out.calm hC; have c1 := cellB hM.head (i := 1) (v := .int .i64 s.p) rfl; have c2 := cellB hM.head (i := 2) (v := .int .i64 s.c) rfl; have c4 := cellB hM.head (i := 4) (v := .int .i64 s.own) rfl; have c6 := cellB hM.head (i := 6) (v := .int .i64 s.st) rfl; have HC := Lib.hid (And.intro hM hC); clear hM hC) | (go_at_call 55; refine (mtakec cb ab mb N s t _ HC.out.1).mono ?_; rintro e w2 ⟨rfl, hM, hC2⟩; have HK := Lib.hid (And.intro hM hC2); clear hM hC2))
        go_ret
        exact ⟨rfl, HC.out.1, HC.out.2.mono (by simp)⟩


set_option maxRecDepth 100000 in
set_option maxHeartbeats 1000000 in
theorem mlockc (cb ab mb : Nat) (N : Int) (s : MS) (t q b : Int) (w : World) (h : MAt w cb ab mb N s) (hN : N < 4611686018427387904) (hcnt : 0 ≤ s.cnt) :
    Calls Try.prog 12 #[.pointer (some ⟨cb, 0, none⟩), .int .i64 t, .int .i64 q, .int .i64 b] w fun e w' => e = .returned (.tuple #[.bool (s.lockB t q b), .int .i64 (s.lockE t q b)]) ∧ MAt w' cb ab mb (N + 1) (s.lockS t q b) ∧ Chg [cb, ab, mb] w w' := by
  have HM := Lib.hid h
  have HA := Lib.hid (maskc cb ab mb N s t b w h)
  have HN := Lib.hid hN
  have HCn := Lib.hid hcnt
  clear h hN hcnt
  by_cases h1 : prB q = true
  · have HP := Lib.hid h1
    by_cases h2 : s.askE t b = 16
    · have hs := MS.askS_wait h2
      rw [hs, h2] at HA
      by_cases h3 : s.own = t
      · have q3 : (s.own == t) = true := by simpa using h3
        by_cases h4 : s.k = 1
        · rw [show s.lockB t q b = false by unfold MS.lockB; simp [h1, h2, h3, h4], show s.lockE t q b = 35 by unfold MS.lockE; simp [h1, h2, h3, h4], show s.lockS t q b = s by unfold MS.lockS; simp [h1, h2, h3, h4]]
          have q4 : (s.k == 1) = true := by simpa using h4
          clear hs h1 h2 h3 h4
          go_enter Try.func12, Try.ntmps12
          go_wp2_with (first | (go_at_call 32; refine (mprioc q _).mono ?_; rintro e w' ⟨rfl, rfl⟩; rw [HP.out]) | (go_at_call 33; refine HA.out.mono ?_; rintro e w1 ⟨rfl, hM, hC⟩; have c0 := cellB hM.head (i := 0) (v := .int .i64 s.k) rfl; have c4 := cellB hM.head (i := 4) (v := .int .i64 s.own) rfl; have c7 := cellB hM.head (i := 7) (v := .pointer (some ⟨ab, 0, none⟩)) rfl; have HC := Lib.hid (And.intro hM hC); clear hM hC))
          go_wp2
          go_ret2
          exact ⟨rfl, HC.out.1.mono (by omega), HC.out.2.mono (by simp)⟩
        · have q4 : (s.k == 1) = false := by simpa using h4
          by_cases h5 : s.k = 2
          · rw [show s.lockB t q b = decide (¬ 32767 ≤ s.cnt) by unfold MS.lockB; simp [h1, h2, h3, h5], show s.lockE t q b = if 32767 ≤ s.cnt then 11 else 0 by unfold MS.lockE; simp [h1, h2, h3, h5], show s.lockS t q b = if 32767 ≤ s.cnt then s else { s with cnt := s.cnt + 1 } by unfold MS.lockS; simp [h1, h2, h3, h5]]
            have q5 : (s.k == 2) = true := by simpa using h5
            have hG := fun (W : World) (hW : MAt W cb ab mb N s) => magainc cb ab mb N s W hW HCn.out
            generalize decide (¬ 32767 ≤ s.cnt) = xb at hG ⊢
            generalize (if 32767 ≤ s.cnt then (11 : Int) else 0) = xe at hG ⊢
            generalize (if 32767 ≤ s.cnt then s else { s with cnt := s.cnt + 1 }) = s2 at hG ⊢
            have HG := Lib.hid hG
            clear hs h1 h2 h3 h4 h5 hG
            go_enter Try.func12, Try.ntmps12
            go_wp2_with (first | (go_at_call 32; refine (mprioc q _).mono ?_; rintro e w' ⟨rfl, rfl⟩; rw [HP.out]) | (go_at_call 33; refine HA.out.mono ?_; rintro e w1 ⟨rfl, hM, hC⟩; have c0 := cellB hM.head (i := 0) (v := .int .i64 s.k) rfl; have c4 := cellB hM.head (i := 4) (v := .int .i64 s.own) rfl; have c7 := cellB hM.head (i := 7) (v := .pointer (some ⟨ab, 0, none⟩)) rfl; have HC := Lib.hid (And.intro hM hC); clear hM hC))
            refine (HG.out _ HC.out.1).mono ?_
            rintro e w2 ⟨rfl, hM, hC2⟩
            have H2 := Lib.hid (And.intro (hM.mono (show N ≤ N + 1 by omega)) ((HC.out.2.trans hC2).mono (show ∀ k ∈ [cb], k ∈ [cb, ab, mb] ∨ _ by simp)))
            clear hM hC2
            go_wp2
            go_ret2
            exact ⟨rfl, H2.out.1, H2.out.2⟩
          · rw [show s.lockB t q b = false by unfold MS.lockB; simp [h1, h2, h3, h5], show s.lockE t q b = 0 by unfold MS.lockE; simp [h1, h2, h3, h4, h5], show s.lockS t q b = { s with L := putL s.L t q } by unfold MS.lockS; simp [h1, h2, h3, h4, h5]]
            have q5 : (s.k == 2) = false := by simpa using h5
            have q7 : (s.k == 0) = true ∨ (s.k == 0) = false := by cases (s.k == 0) <;> simp
            clear hs h1 h2 h3 h4 h5
            rcases q7 with q7 | q7
            all_goals
              go_enter Try.func12, Try.ntmps12
              go_wp2_with (first | (go_at_call 32; refine (mprioc q _).mono ?_; rintro e w' ⟨rfl, rfl⟩; rw [HP.out]) | (go_at_call 33; refine HA.out.mono ?_; rintro e w1 ⟨rfl, hM, hC⟩; have c0 := cellB hM.head (i := 0) (v := .int .i64 s.k) rfl; have c4 := cellB hM.head (i := 4) (v := .int .i64 s.own) rfl; have c7 := cellB hM.head (i := 7) (v := .pointer (some ⟨ab, 0, none⟩)) rfl; have HC := Lib.hid (And.intro hM hC); clear hM hC))
              refine (putc ab mb N s.L t q _ HC.out.1.list HN.out).mono ?_
              rintro e w2 ⟨rfl, hW, hC2⟩
              have H2 := Lib.hid (And.intro (HC.out.1.step hW hC2) ((HC.out.2.mono (show ∀ k ∈ [cb], k ∈ [cb, ab, mb] ∨ _ by simp)).trans (hC2.mono (show ∀ k ∈ [ab, mb], k ∈ [cb, ab, mb] ∨ _ by simp))))
              clear hW hC2
              go_wp2
              go_ret2
              exact ⟨rfl, H2.out.1, H2.out.2⟩
      · rw [show s.lockB t q b = false by unfold MS.lockB; simp [h1, h2, h3], show s.lockE t q b = 0 by unfold MS.lockE; simp [h1, h2, h3], show s.lockS t q b = { s with L := putL s.L t q } by unfold MS.lockS; simp [h1, h2, h3]]
        have q3 : (s.own == t) = false := by simpa using h3
        clear hs h1 h2 h3
        go_enter Try.func12, Try.ntmps12
        go_wp2_with (first | (go_at_call 32; refine (mprioc q _).mono ?_; rintro e w' ⟨rfl, rfl⟩; rw [HP.out]) | (go_at_call 33; refine HA.out.mono ?_; rintro e w1 ⟨rfl, hM, hC⟩; have c0 := cellB hM.head (i := 0) (v := .int .i64 s.k) rfl; have c4 := cellB hM.head (i := 4) (v := .int .i64 s.own) rfl; have c7 := cellB hM.head (i := 7) (v := .pointer (some ⟨ab, 0, none⟩)) rfl; have HC := Lib.hid (And.intro hM hC); clear hM hC))
        refine (putc ab mb N s.L t q _ HC.out.1.list HN.out).mono ?_
        rintro e w2 ⟨rfl, hW, hC2⟩
        have H2 := Lib.hid (And.intro (HC.out.1.step hW hC2) ((HC.out.2.mono (show ∀ k ∈ [cb], k ∈ [cb, ab, mb] ∨ _ by simp)).trans (hC2.mono (show ∀ k ∈ [ab, mb], k ∈ [cb, ab, mb] ∨ _ by simp))))
        clear hW hC2
        go_wp2
        go_ret2
        exact ⟨rfl, H2.out.1, H2.out.2⟩
    · rw [show s.lockB t q b = decide (s.askE t b = 0 ∨ s.askE t b = 130) by unfold MS.lockB; simp [h1, h2], show s.lockE t q b = s.askE t b by unfold MS.lockE; simp [h1, h2], show s.lockS t q b = s.askS t b by unfold MS.lockS; simp [h1, h2]]
      obtain ⟨r, hr⟩ : ∃ r, r = s.askE t b := ⟨_, rfl⟩
      rw [← hr] at HA h2 ⊢
      clear hr
      have q2 : (r != 16) = true := by simpa using h2
      by_cases h3 : r = 0
      · subst h3
        rw [decide_eq_true (.inl rfl)]
        clear h1 h2
        go_enter Try.func12, Try.ntmps12
        go_wp2_with (first | (go_at_call 32; refine (mprioc q _).mono ?_; rintro e w' ⟨rfl, rfl⟩; rw [HP.out]) | (go_at_call 33; refine HA.out.mono ?_; rintro e w1 ⟨rfl, hM, hC⟩; have HC := Lib.hid (And.intro hM hC); clear hM hC))
        go_wp2
        go_ret2
        exact ⟨rfl, HC.out.1.mono (by omega), HC.out.2.mono (by simp)⟩
      · have q3 : (r == 0) = false := by simpa using h3
        rw [show decide (r = 0 ∨ r = 130) = (r == 130) by simp [h3]; rfl]
        clear h1 h2 h3
        go_enter Try.func12, Try.ntmps12
        go_wp2_with (first | (go_at_call 32; refine (mprioc q _).mono ?_; rintro e w' ⟨rfl, rfl⟩; rw [HP.out]) | (go_at_call 33; refine HA.out.mono ?_; rintro e w1 ⟨rfl, hM, hC⟩; have HC := Lib.hid (And.intro hM hC); clear hM hC))
        go_wp2
        go_ret2
        exact ⟨rfl, HC.out.1.mono (by omega), HC.out.2.mono (by simp)⟩
  · have h1' : prB q = false := by simpa using h1
    have HP := Lib.hid h1'
    rw [show s.lockB t q b = false by unfold MS.lockB; simp [h1'], show s.lockE t q b = 22 by unfold MS.lockE; simp [h1'], show s.lockS t q b = s by unfold MS.lockS; simp [h1']]
    clear h1 h1'
    go_enter Try.func12, Try.ntmps12
    go_wp2_with (go_at_call 32; refine (mprioc q _).mono ?_; rintro e w' ⟨rfl, rfl⟩; rw [HP.out])
    go_ret2
    exact ⟨rfl, HM.out.mono (by omega), Chg.refl _ _⟩

end Go.Proofs.Ytagnobmdcchcaaa
