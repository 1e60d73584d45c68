
/- metronomeref13: Lock that does not wait: contract (written by wip/qlock.py). -/
import Derived.Test.YtagnobmdcchcaaaQd
namespace Go.Proofs.Ytagnobmdcchcaaa
open Go.RowKit

set_option maxRecDepth 100000 in
set_option maxHeartbeats 8000000 in
theorem qtryc (rc : Nat) (gs : List Nat) (s : MS) (t b : Int) (w : World) (h : QM w rc gs s) (hok : MOk s) (hl : s.L.length ≤ 16) :
    Calls Try.prog 43 #[.pointer (some ⟨rc, 0, none⟩), .int .i64 t, .int .i64 1, .int .i64 b, .bool false] w fun e w' => ∃ x, e = .returned (.tuple #[.bool x, .int .i64 (s.tryE t b)]) ∧ QP rc gs (s.tryS t b) w w' := by
  have HQ := Lib.hid h
  have hA := qatc rc gs s t w h (by omega)
  have PRq := Lib.hid (fun (x : Int) (W : World) => qprioc x W)
  have HC1 := Lib.hid (h.putCnt (s.cnt + 1))
  have hcnt0 := hok.cnt0
  have HH := Lib.hid (qhasc rc gs s t w h)
  have hni := h.notin
  obtain ⟨v, hb, hv, hg⟩ := h
  obtain ⟨va, vc, rfl⟩ := own_slice hv
  have c0 := cellB hb (i := 0) (v := .int .i64 s.k) rfl
  have c1 := cellB hb (i := 1) (v := .int .i64 s.p) rfl
  have c2 := cellB hb (i := 2) (v := .int .i64 s.c) rfl
  have c4 := cellB hb (i := 4) (v := .int .i64 s.own) rfl
  have c5 := cellB hb (i := 5) (v := .int .i64 s.cnt) rfl
  have c6 := cellB hb (i := 6) (v := .int .i64 s.st) rfl
  have c7 := cellB hb (i := 7) (v := .slice va s.L.length vc) rfl
  have f5 := frozenB hb 5
  have HV := Lib.hid (And.intro hb (And.intro hv (And.intro (show rc ∉ (Value.slice va s.L.length vc).ownBlock.toList by rw [hg]; exact hni) hg)))
  have hway := lock_way hok t
  have HNf := Lib.hid (fun (h1 : s.own = t) (h2 : thB t = true) => show s.free = false from by
    have := (thB_iff.1 h2).1
    unfold MS.free
    rw [decide_eq_false (by omega)]; rfl)
  clear hb hv hg hni hok
  rcases may_ways s t 1 b with hbad | ⟨h1, h2, h3, h4, h5⟩
  · have hv := may_bad hbad
    obtain ⟨e2, e3⟩ := try_bad (hv.resolve_left (by decide))
    rw [e2, e3]
    clear hv e2 e3 hway
    rcases hbad with h1 | ⟨h1, h2⟩ | ⟨h1, h2, h3⟩ | ⟨h1, h2, h3, h4⟩ | ⟨h1, h2, h3, h4, h5, h6⟩
    · have HT := Lib.hid h1
      have HA := Lib.hid hA
      clear hA
      clear h1
      go_enter Try.func43, Try.ntmps43
      go_wp2_with (first | (go_at_call 64; refine (qthreadc t _).mono ?_; rintro e w' ⟨rfl, rfl⟩; rw [HT.out]))
      go_ret2
      exact ⟨_, rfl, .same HQ.out (Chg.refl _ _)⟩
    · have HT := Lib.hid h1
      have HA := Lib.hid hA
      clear hA
      exact absurd h2 (by decide)
    · have HT := Lib.hid h1
      have HA := Lib.hid hA
      clear hA
      skip
      have HP1 : Hid (prB 1 = true) := Lib.hid h2
      have HP2 : Hid (prB b = false) := Lib.hid h3
      clear h2 h3 h1
      go_enter Try.func43, Try.ntmps43
      go_wp2_with (first | (go_at_call 64; refine (qthreadc t _).mono ?_; rintro e w' ⟨rfl, rfl⟩; rw [HT.out]) | (go_at_call 65; refine (qprioc _ _).mono ?_; rintro e w' ⟨rfl, rfl⟩; first | rw [HP1.out] | rw [HP2.out]))
      go_ret2
      exact ⟨_, rfl, .same HQ.out (Chg.refl _ _)⟩
    · have HT := Lib.hid h1
      obtain ⟨i, g1, g2, g3, g4⟩ := findL_some h4
      rw [g1] at hA
      clear g1 g2 g3 g4
      have HA := Lib.hid hA
      clear hA
      skip
      have HP1 : Hid (prB 1 = true) := Lib.hid h2
      have HP2 : Hid (prB b = true) := Lib.hid h3
      clear h2 h3 h4 h1
      go_enter Try.func43, Try.ntmps43
      go_wp2_with (first | (go_at_call 64; refine (qthreadc t _).mono ?_; rintro e w' ⟨rfl, rfl⟩; rw [HT.out]) | (go_at_call 65; refine (qprioc _ _).mono ?_; rintro e w' ⟨rfl, rfl⟩; first | rw [HP1.out] | rw [HP2.out]) | (go_at_call 66; refine HA.out.mono ?_; rintro e w' ⟨rfl, rfl⟩))
      go_ret2
      exact ⟨_, rfl, .same HQ.out (Chg.refl _ _)⟩
    · have HT := Lib.hid h1
      rw [findL_none h4] at hA
      have HA := Lib.hid hA
      clear hA
      skip
      have HP1 : Hid (prB 1 = true) := Lib.hid h2
      have HP2 : Hid (prB b = true) := Lib.hid h3
      clear h2 h3 h4 h1
      go_enter Try.func43, Try.ntmps43
      go_wp2_with (first | (go_at_call 64; refine (qthreadc t _).mono ?_; rintro e w' ⟨rfl, rfl⟩; rw [HT.out]) | (go_at_call 65; refine (qprioc _ _).mono ?_; rintro e w' ⟨rfl, rfl⟩; first | rw [HP1.out] | rw [HP2.out]) | (go_at_call 66; refine HA.out.mono ?_; rintro e w' ⟨rfl, rfl⟩))
      go_ret2
      exact ⟨_, rfl, .same HQ.out (Chg.refl _ _)⟩
  · have hm : s.may t b = true := may_good ⟨h1, h3, h4, h5⟩
    have HT := Lib.hid h1
    have HP1 : Hid (prB 1 = true) := Lib.hid h2
    have HP2 : Hid (prB b = true) := Lib.hid h3
    have hnf := fun e => HNf.out e h1
    rw [findL_none h4] at hA
    have HA := Lib.hid hA
    have ha : askR s.L t 1 false = 0 := by
      have hp := prB_iff.1 h2
      have ht := thB_iff.1 h1
      unfold okP at hp
      unfold okT at ht
      unfold hasR at h4
      unfold askR
      rw [if_neg (by omega), h4]; rfl
    clear hA h1 h3 h4
    rcases hway with h | ⟨h, g1, g2, g3⟩ | ⟨h, g1, g2, g3⟩ | ⟨h, g1, g2⟩ | ⟨h, g1, g2, g3⟩ | ⟨h, g1, g2, g3, g4⟩ | ⟨h, g1, g2, g3⟩ | ⟨h, g1, g2⟩
    · have h' : s.st = 2 := by simpa using h
      have hE : s.askE t b = 131 := by unfold MS.askE; rw [if_pos hm, if_pos h']
      have hS : s.askS t b = s := by unfold MS.askS; rw [if_neg (fun e => e.2.1 h')]
      rw [show s.tryE t b = 131 by unfold MS.tryE; rw [hE]; simp, show s.tryS t b = s by unfold MS.tryS; rw [hE, hS]; simp]
      clear hm hnf ha h2 h' hE hS
      rcases h5 with h5 | ⟨h5, h6⟩
      all_goals
        go_enter Try.func43, Try.ntmps43
        go_wp2_with (first | (go_at_call 64; refine (qthreadc t _).mono ?_; rintro e w' ⟨rfl, rfl⟩; rw [HT.out]) | (go_at_call 65; refine (qprioc _ _).mono ?_; rintro e w' ⟨rfl, rfl⟩; first | rw [HP1.out] | rw [HP2.out]) | (go_at_call 66; refine HA.out.mono ?_; rintro e w' ⟨rfl, rfl⟩))
        go_ret2
        exact ⟨_, rfl, .same HQ.out (Chg.refl _ _)⟩
    · have h' : ¬ s.st = 2 := by simpa using h
      have hE : s.askE t b = 16 := ask16 hm h' (hnf g1)
      have hS : s.askS t b = s := MS.askS_wait hE
      rw [show s.tryE t b = 11 by unfold MS.tryE; simp [hE, g1, g2, g3], show s.tryS t b = s by unfold MS.tryS; first | (simp [hE, g1, g2, g3]; done) | simp [hE, hS, g1, g2, g3]]
      have q1 : (s.own == t) = true := by simpa using g1
      have q2 : (s.k == 2) = true := by simpa using g2
      have q3 : (s.cnt == 32767) = true := by simpa using g3
      clear hm hnf ha h2 h' hE hS g1 g2 g3
      rcases h5 with h5 | ⟨h5, h6⟩
      all_goals
        go_enter Try.func43, Try.ntmps43
        go_wp2_with (first | (go_at_call 64; refine (qthreadc t _).mono ?_; rintro e w' ⟨rfl, rfl⟩; rw [HT.out]) | (go_at_call 65; refine (qprioc _ _).mono ?_; rintro e w' ⟨rfl, rfl⟩; first | rw [HP1.out] | rw [HP2.out]) | (go_at_call 66; refine HA.out.mono ?_; rintro e w' ⟨rfl, rfl⟩))
        go_ret2
        exact ⟨_, rfl, .same HQ.out (Chg.refl _ _)⟩
    · have h' : ¬ s.st = 2 := by simpa using h
      have hE : s.askE t b = 16 := ask16 hm h' (hnf g1)
      have hS : s.askS t b = s := MS.askS_wait hE
      have g3' : ¬ 32767 ≤ s.cnt := by omega
      rw [show s.tryE t b = 0 by unfold MS.tryE; simp [hE, g1, g2, g3'], show s.tryS t b = { s with cnt := s.cnt + 1 } by unfold MS.tryS; first | (simp [hE, g1, g2, g3']; done) | simp [hE, hS, g1, g2, g3']]
      have q1 : (s.own == t) = true := by simpa using g1
      have q2 : (s.k == 2) = true := by simpa using g2
      have q3 : (s.cnt == 32767) = false := by simp; omega
      have q4 : s.cnt < 32767 := g3
      clear hm hnf ha h2 h' hE hS g1 g2 g3 g3'
      rcases h5 with h5 | ⟨h5, h6⟩
      all_goals
        go_enter Try.func43, Try.ntmps43
        go_wp2_with (first | (go_at_call 64; refine (qthreadc t _).mono ?_; rintro e w' ⟨rfl, rfl⟩; rw [HT.out]) | (go_at_call 65; refine (qprioc _ _).mono ?_; rintro e w' ⟨rfl, rfl⟩; first | rw [HP1.out] | rw [HP2.out]) | (go_at_call 66; refine HA.out.mono ?_; rintro e w' ⟨rfl, rfl⟩))
        go_ret2
        exact ⟨_, rfl, .same HC1.out.1 (HC1.out.2.mono (by simp))⟩
    · have h' : ¬ s.st = 2 := by simpa using h
      have hE : s.askE t b = 16 := ask16 hm h' (hnf g1)
      have hS : s.askS t b = s := MS.askS_wait hE
      rw [show s.tryE t b = 16 by unfold MS.tryE; simp [hE, g1, g2], show s.tryS t b = s by unfold MS.tryS; first | (simp [hE, g1, g2]; done) | simp [hE, hS, g1, g2]]
      have q1 : (s.own == t) = true := by simpa using g1
      have q2 : (s.k == 2) = false := by simp [g2]
      have q3 : (s.k == 1) = true := by simpa using g2
      clear hm hnf ha h2 h' hE hS g1 g2
      rcases h5 with h5 | ⟨h5, h6⟩
      all_goals
        go_enter Try.func43, Try.ntmps43
        go_wp2_with (first | (go_at_call 64; refine (qthreadc t _).mono ?_; rintro e w' ⟨rfl, rfl⟩; rw [HT.out]) | (go_at_call 65; refine (qprioc _ _).mono ?_; rintro e w' ⟨rfl, rfl⟩; first | rw [HP1.out] | rw [HP2.out]) | (go_at_call 66; refine HA.out.mono ?_; rintro e w' ⟨rfl, rfl⟩))
        go_ret2
        exact ⟨_, rfl, .same HQ.out (Chg.refl _ _)⟩
    · have h' : ¬ s.st = 2 := by simpa using h
      have hE : s.askE t b = 16 := ask16 hm h' (hnf g1)
      have hS : s.askS t b = s := MS.askS_wait hE
      rw [show s.tryE t b = 16 by unfold MS.tryE; simp [hE, g1, g3], show s.tryS t b = s by unfold MS.tryS; first | (simp [hE, g1, g3]; done) | simp [hE, hS, g1, g3]]
      have q1 : (s.own == t) = true := by simpa using g1
      have q2 : (s.k == 2) = false := by simpa using g3
      have q3 : (s.k == 1) = false := by simpa using g2
      clear hm hnf ha h2 h' hE hS g1 g2 g3
      rcases h5 with h5 | ⟨h5, h6⟩
      all_goals
        go_enter Try.func43, Try.ntmps43
        go_wp2_with (first | (go_at_call 64; refine (qthreadc t _).mono ?_; rintro e w' ⟨rfl, rfl⟩; rw [HT.out]) | (go_at_call 65; refine (qprioc _ _).mono ?_; rintro e w' ⟨rfl, rfl⟩; first | rw [HP1.out] | rw [HP2.out]) | (go_at_call 66; refine HA.out.mono ?_; rintro e w' ⟨rfl, rfl⟩))
        go_ret2
        exact ⟨_, rfl, .same HQ.out (Chg.refl _ _)⟩
    · have h' : ¬ s.st = 2 := by simpa using h
      have hE : s.askE t b = s.told := by unfold MS.askE; rw [if_pos hm, if_neg h', if_pos g4]
      have hS : s.askS t b = s.took t := by unfold MS.askS; rw [if_pos ⟨hm, h', g4⟩]
      have hne : s.told ≠ 16 := by unfold MS.told; split <;> omega
      have hto : s.told = 0 ∨ s.told = 130 := by unfold MS.told; split <;> omega
      rw [show s.tryE t b = s.told by unfold MS.tryE; rw [hE, if_neg (fun e => hne e.1)], show s.tryS t b = s.took t by unfold MS.tryS; rw [hE, if_neg (fun e => hne e.1), hS]]
      have q1 : (s.own == t) = false := by simpa using g1
      have q2 : decide (s.own < 0) = true := decide_eq_true g2
      have q3 : (s.st != 3) = true := by simpa using g3
      clear hm hnf ha h2 h' hE hS hne hto g1 g2 g3 g4
      rcases h5 with h5 | ⟨h5, h6⟩
      all_goals
        go_enter Try.func43, Try.ntmps43
        go_wp2_with (first | (go_at_call 64; refine (qthreadc t _).mono ?_; rintro e w' ⟨rfl, rfl⟩; rw [HT.out]) | (go_at_call 65; refine (qprioc _ _).mono ?_; rintro e w' ⟨rfl, rfl⟩; first | rw [HP1.out] | rw [HP2.out]) | (go_at_call 66; refine HA.out.mono ?_; rintro e w' ⟨rfl, rfl⟩) | (go_at_call 67; refine HH.out.mono ?_; rintro e w1 ⟨rfl, hQ1, hC1⟩))
        go_ret2
        exact ⟨_, rfl, .same hQ1 (hC1.mono (by simp))⟩
    · have h' : ¬ s.st = 2 := by simpa using h
      have hE : s.askE t b = 16 := ask16 hm h' (by unfold MS.free; rw [decide_eq_true g3]; simp)
      have hS : s.askS t b = s := MS.askS_wait hE
      rw [show s.tryE t b = 16 by unfold MS.tryE; simp [hE, g1], show s.tryS t b = s by unfold MS.tryS; first | (simp [hE, g1]; done) | simp [hE, hS, g1]]
      have q1 : (s.own == t) = false := by simpa using g1
      have q2 : decide (s.own < 0) = true := decide_eq_true g2
      have q3 : (s.st != 3) = false := by simpa using g3
      clear hm hnf ha h2 h' hE hS g1 g2 g3
      rcases h5 with h5 | ⟨h5, h6⟩
      all_goals
        go_enter Try.func43, Try.ntmps43
        go_wp2_with (first | (go_at_call 64; refine (qthreadc t _).mono ?_; rintro e w' ⟨rfl, rfl⟩; rw [HT.out]) | (go_at_call 65; refine (qprioc _ _).mono ?_; rintro e w' ⟨rfl, rfl⟩; first | rw [HP1.out] | rw [HP2.out]) | (go_at_call 66; refine HA.out.mono ?_; rintro e w' ⟨rfl, rfl⟩))
        go_ret2
        exact ⟨_, rfl, .same HQ.out (Chg.refl _ _)⟩
    · have h' : ¬ s.st = 2 := by simpa using h
      have hE : s.askE t b = 16 := ask16 hm h' (by unfold MS.free; rw [decide_eq_false (by omega)]; rfl)
      have hS : s.askS t b = s := MS.askS_wait hE
      rw [show s.tryE t b = 16 by unfold MS.tryE; simp [hE, g1], show s.tryS t b = s by unfold MS.tryS; first | (simp [hE, g1]; done) | simp [hE, hS, g1]]
      have q1 : (s.own == t) = false := by simpa using g1
      have q2 : decide (s.own < 0) = false := decide_eq_false g2
      clear hm hnf ha h2 h' hE hS g1 g2
      rcases h5 with h5 | ⟨h5, h6⟩
      all_goals
        go_enter Try.func43, Try.ntmps43
        go_wp2_with (first | (go_at_call 64; refine (qthreadc t _).mono ?_; rintro e w' ⟨rfl, rfl⟩; rw [HT.out]) | (go_at_call 65; refine (qprioc _ _).mono ?_; rintro e w' ⟨rfl, rfl⟩; first | rw [HP1.out] | rw [HP2.out]) | (go_at_call 66; refine HA.out.mono ?_; rintro e w' ⟨rfl, rfl⟩))
        go_ret2
        exact ⟨_, rfl, .same HQ.out (Chg.refl _ _)⟩

end Go.Proofs.Ytagnobmdcchcaaa
