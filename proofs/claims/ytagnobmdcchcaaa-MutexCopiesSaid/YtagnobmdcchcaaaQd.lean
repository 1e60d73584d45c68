
/- metronomeref13: Lock, New: contracts (written by wip/qlock.py). -/
import Derived.Test.YtagnobmdcchcaaaQc
namespace Go.Proofs.Ytagnobmdcchcaaa
open Go.RowKit

/-- May it ask: the tests one by one. -/
theorem may_ways (s : MS) (t q b : Int) : (thB t = false ∨ (thB t = true ∧ prB q = false) ∨ (thB t = true ∧ prB q = true ∧ prB b = false) ∨ (thB t = true ∧ prB q = true ∧ prB b = true ∧ hasR s.L t = true) ∨ (thB t = true ∧ prB q = true ∧ prB b = true ∧ hasR s.L t = false ∧ (s.p == 2) = true ∧ decide (s.c < b) = true)) ∨
    (thB t = true ∧ prB q = true ∧ prB b = true ∧ hasR s.L t = false ∧ ((s.p == 2) = false ∨ ((s.p == 2) = true ∧ decide (s.c < b) = false))) := by
  cases thB t <;> cases prB q <;> cases prB b <;> cases hasR s.L t <;> simp
  by_cases h1 : s.p = 2 <;> by_cases h2 : s.c < b <;> simp [h1, h2]
  omega
theorem may_bad {s : MS} {t q b : Int} (h : thB t = false ∨ (thB t = true ∧ prB q = false) ∨ (thB t = true ∧ prB q = true ∧ prB b = false) ∨ (thB t = true ∧ prB q = true ∧ prB b = true ∧ hasR s.L t = true) ∨ (thB t = true ∧ prB q = true ∧ prB b = true ∧ hasR s.L t = false ∧ (s.p == 2) = true ∧ decide (s.c < b) = true)) :
    prB q = false ∨ s.may t b = false := by
  unfold MS.may
  rcases h with h | ⟨h, h2⟩ | ⟨h, h2, h3⟩ | ⟨h, h2, h3, h4⟩ | ⟨h, h2, h3, h4, h5, h6⟩
  · right; rw [h]; rfl
  · exact .inl h2
  · right; rw [h, h3]; rfl
  · right; rw [h, h3, h4]; rfl
  · right
    have : s.p = 2 := by simpa using h5
    rw [h, h3, h4, h6, this]; rfl
theorem may_good {s : MS} {t b : Int} (h : thB t = true ∧ prB b = true ∧ hasR s.L t = false ∧ ((s.p == 2) = false ∨ ((s.p == 2) = true ∧ decide (s.c < b) = false))) : s.may t b = true := by
  unfold MS.may
  obtain ⟨h1, h2, h3, h4⟩ := h
  rw [h1, h2, h3]
  rcases h4 with h4 | ⟨h4, h5⟩
  · have : ¬ s.p = 2 := by simpa using h4
    simp [this]
  · rw [h5]; simp
theorem lock_bad {s : MS} {t q b : Int} (h : prB q = false ∨ s.may t b = false) : s.lockB t q b = false ∧ s.lockE t q b = 22 ∧ s.lockS t q b = s := by
  cases hq : prB q with
  | false => unfold MS.lockB MS.lockE MS.lockS; rw [hq]; exact ⟨rfl, rfl, rfl⟩
  | true =>
    have hm := h.resolve_left (by rw [hq]; simp)
    have hE : s.askE t b = 22 := by unfold MS.askE; rw [hm]; rfl
    have hS : s.askS t b = s := by unfold MS.askS; rw [hm]; rfl
    unfold MS.lockB MS.lockE MS.lockS
    rw [hq, hE, hS]
    exact ⟨rfl, rfl, rfl⟩
theorem try_bad {s : MS} {t b : Int} (h : s.may t b = false) : s.tryE t b = 22 ∧ s.tryS t b = s := by
  have hE : s.askE t b = 22 := by unfold MS.askE; rw [h]; rfl
  have hS : s.askS t b = s := by unfold MS.askS; rw [h]; rfl
  unfold MS.tryE MS.tryS
  rw [hE, hS]
  exact ⟨by simp, by simp⟩

/-- The rest of it, of one that may ask. -/
inductive LW (s : MS) (t : Int) : Prop
  | lost (h : (s.st == 2) = true)
  | full (h : (s.st == 2) = false) (h1 : s.own = t) (h2 : s.k = 2) (h3 : s.cnt = 32767)
  | again (h : (s.st == 2) = false) (h1 : s.own = t) (h2 : s.k = 2) (h3 : s.cnt < 32767)
  | check (h : (s.st == 2) = false) (h1 : s.own = t) (h2 : s.k = 1)
  | mine (h : (s.st == 2) = false) (h1 : s.own = t) (h2 : s.k ≠ 1) (h3 : s.k ≠ 2)
  | free (h : (s.st == 2) = false) (h1 : s.own ≠ t) (h2 : s.own < 0) (h3 : s.st ≠ 3) (h4 : s.free = true)
  | gone (h : (s.st == 2) = false) (h1 : s.own ≠ t) (h2 : s.own < 0) (h3 : s.st = 3)
  | held (h : (s.st == 2) = false) (h1 : s.own ≠ t) (h2 : ¬ s.own < 0)
theorem lock_way {s : MS} (hok : MOk s) (t : Int) : LW s t := by
  by_cases h : s.st = 2
  · exact .lost (by simpa using h)
  · have h' : (s.st == 2) = false := by simpa using h
    by_cases h1 : s.own = t
    · by_cases h2 : s.k = 2
      · by_cases h3 : s.cnt = 32767
        · exact .full h' h1 h2 h3
        · exact .again h' h1 h2 (by have := hok.cntM; omega)
      · by_cases h3 : s.k = 1
        · exact .check h' h1 h3
        · exact .mine h' h1 h3 h2
    · by_cases h2 : s.own < 0
      · by_cases h3 : s.st = 3
        · exact .gone h' h1 h2 h3
        · refine .free h' h1 h2 h3 ?_
          have : s.own = -1 := by
            rcases hok.own with e | e
            · exact e
            · have := e.1; omega
          unfold MS.free
          rw [decide_eq_true this, decide_eq_false h3]; rfl
      · exact .held h' h1 h2
theorem ask16 {s : MS} {t b : Int} (hm : s.may t b = true) (h : ¬ s.st = 2) (hf : s.free = false) : s.askE t b = 16 := by
  unfold MS.askE; rw [if_pos hm, if_neg h, hf]; rfl

set_option maxRecDepth 100000 in
set_option maxHeartbeats 8000000 in
theorem qlockc (rc : Nat) (gs : List Nat) (s : MS) (t q b : Int) (w : World) (h : QM w rc gs s) (hok : MOk s) (_hL : ListOk s.L) (hl : s.L.length ≤ 16) :
    Calls Try.prog 43 #[.pointer (some ⟨rc, 0, none⟩), .int .i64 t, .int .i64 q, .int .i64 b, .bool true] w fun e w' => e = .returned (.tuple #[.bool (s.lockB t q b), .int .i64 (s.lockE t q b)]) ∧ QP rc gs (s.lockS t q b) w w' := by
  have HQ := Lib.hid h
  have hA := qatc rc gs s t w h (by omega)
  have PRq := Lib.hid (fun (x : Int) (W : World) => qprioc x W)
  obtain ⟨i0, hi, hz0, hz1, hz2⟩ := info_parts infoW13
  have hd1 : s.L.length + 1 ≤ maxLen := by unfold maxLen; omega
  have hd2 : (s.L.length + 1) * 16 ≤ 140737488355328 := by omega
  have HC1 := Lib.hid (h.putCnt (s.cnt + 1))
  have hcnt0 := hok.cnt0
  have HH := Lib.hid (qhasc rc gs s t w h)
  have hni := h.notin
  obtain ⟨v, hb, hv, hg⟩ := h
  obtain ⟨va, vc, rfl⟩ := own_slice hv
  have c0 := cellB hb (i := 0) (v := .int .i64 s.k) rfl
  have c1 := cellB hb (i := 1) (v := .int .i64 s.p) rfl
  have c2 := cellB hb (i := 2) (v := .int .i64 s.c) rfl
  have c4 := cellB hb (i := 4) (v := .int .i64 s.own) rfl
  have c5 := cellB hb (i := 5) (v := .int .i64 s.cnt) rfl
  have c6 := cellB hb (i := 6) (v := .int .i64 s.st) rfl
  have c7 := cellB hb (i := 7) (v := .slice va s.L.length vc) rfl
  have f5 := frozenB hb 5
  have HV := Lib.hid (And.intro hb (And.intro hv (And.intro (show rc ∉ (Value.slice va s.L.length vc).ownBlock.toList by rw [hg]; exact hni) hg)))
  have hway := lock_way hok t
  have HNf := Lib.hid (fun (h1 : s.own = t) (h2 : thB t = true) => show s.free = false from by
    have := (thB_iff.1 h2).1
    unfold MS.free
    rw [decide_eq_false (by omega)]; rfl)
  clear hb hv hg hni hok
  have hfz := fun (W : World) (hW : W.heap[rc]? = some (.cells (qcells (.slice va s.L.length vc) s) 65 (0, 0))) => frozenB hW 7
  obtain ⟨n, hn⟩ : ∃ n, n = s.L.length := ⟨_, rfl⟩
  have HLen := Lib.hid hn
  rw [← hn] at c7 HV hd1 hd2 hl
  rw [← hn] at hfz
  clear hn
  rcases may_ways s t q b with hbad | ⟨h1, h2, h3, h4, h5⟩
  · have hv := may_bad hbad
    obtain ⟨e1, e2, e3⟩ := lock_bad hv
    rw [e1, e2, e3]
    clear hv e2 e3 hway e1
    rcases hbad with h1 | ⟨h1, h2⟩ | ⟨h1, h2, h3⟩ | ⟨h1, h2, h3, h4⟩ | ⟨h1, h2, h3, h4, h5, h6⟩
    · have HT := Lib.hid h1
      have HA := Lib.hid hA
      clear hA
      clear h1
      go_enter Try.func43, Try.ntmps43
      go_wp2_with (first | (go_at_call 64; refine (qthreadc t _).mono ?_; rintro e w' ⟨rfl, rfl⟩; rw [HT.out]))
      go_ret2
      exact ⟨rfl, .same HQ.out (Chg.refl _ _)⟩
    · have HT := Lib.hid h1
      have HA := Lib.hid hA
      clear hA
      skip
      have HP1 : Hid (prB q = false) := Lib.hid h2
      clear h2 h1
      go_enter Try.func43, Try.ntmps43
      go_wp2_with (first | (go_at_call 64; refine (qthreadc t _).mono ?_; rintro e w' ⟨rfl, rfl⟩; rw [HT.out]) | (go_at_call 65; refine (qprioc q _).mono ?_; rintro e w' ⟨rfl, rfl⟩; rw [HP1.out]))
      go_ret2
      exact ⟨rfl, .same HQ.out (Chg.refl _ _)⟩
    · have HT := Lib.hid h1
      have HA := Lib.hid hA
      clear hA
      skip
      have HP1 : Hid (prB q = true) := Lib.hid h2
      have HP2 : Hid (prB b = false) := Lib.hid h3
      clear h2 h3 h1
      go_enter Try.func43, Try.ntmps43
      go_wp2_with (first | (go_at_call 64; refine (qthreadc t _).mono ?_; rintro e w' ⟨rfl, rfl⟩; rw [HT.out]) | (go_at_call 65; refine (qprioc _ _).mono ?_; rintro e w' ⟨rfl, rfl⟩; first | rw [HP1.out] | rw [HP2.out]))
      go_ret2
      exact ⟨rfl, .same HQ.out (Chg.refl _ _)⟩
    · have HT := Lib.hid h1
      obtain ⟨i, g1, g2, g3, g4⟩ := findL_some h4
      rw [g1] at hA
      clear g1 g2 g3 g4
      have HA := Lib.hid hA
      clear hA
      skip
      have HP1 : Hid (prB q = true) := Lib.hid h2
      have HP2 : Hid (prB b = true) := Lib.hid h3
      clear h2 h3 h4 h1
      go_enter Try.func43, Try.ntmps43
      go_wp2_with (first | (go_at_call 64; refine (qthreadc t _).mono ?_; rintro e w' ⟨rfl, rfl⟩; rw [HT.out]) | (go_at_call 65; refine (qprioc _ _).mono ?_; rintro e w' ⟨rfl, rfl⟩; first | rw [HP1.out] | rw [HP2.out]) | (go_at_call 66; refine HA.out.mono ?_; rintro e w' ⟨rfl, rfl⟩))
      go_ret2
      exact ⟨rfl, .same HQ.out (Chg.refl _ _)⟩
    · have HT := Lib.hid h1
      rw [findL_none h4] at hA
      have HA := Lib.hid hA
      clear hA
      skip
      have HP1 : Hid (prB q = true) := Lib.hid h2
      have HP2 : Hid (prB b = true) := Lib.hid h3
      clear h2 h3 h4 h1
      go_enter Try.func43, Try.ntmps43
      go_wp2_with (first | (go_at_call 64; refine (qthreadc t _).mono ?_; rintro e w' ⟨rfl, rfl⟩; rw [HT.out]) | (go_at_call 65; refine (qprioc _ _).mono ?_; rintro e w' ⟨rfl, rfl⟩; first | rw [HP1.out] | rw [HP2.out]) | (go_at_call 66; refine HA.out.mono ?_; rintro e w' ⟨rfl, rfl⟩))
      go_ret2
      exact ⟨rfl, .same HQ.out (Chg.refl _ _)⟩
  · have hm : s.may t b = true := may_good ⟨h1, h3, h4, h5⟩
    have HT := Lib.hid h1
    have HP1 : Hid (prB q = true) := Lib.hid h2
    have HP2 : Hid (prB b = true) := Lib.hid h3
    have hnf := fun e => HNf.out e h1
    rw [findL_none h4] at hA
    have HA := Lib.hid hA
    have ha : askR s.L t q false = 0 := by
      have hp := prB_iff.1 h2
      have ht := thB_iff.1 h1
      unfold okP at hp
      unfold okT at ht
      unfold hasR at h4
      unfold askR
      rw [if_neg (by omega), h4]; rfl
    clear hA h1 h3 h4
    rcases hway with h | ⟨h, g1, g2, g3⟩ | ⟨h, g1, g2, g3⟩ | ⟨h, g1, g2⟩ | ⟨h, g1, g2, g3⟩ | ⟨h, g1, g2, g3, g4⟩ | ⟨h, g1, g2, g3⟩ | ⟨h, g1, g2⟩
    · have h' : s.st = 2 := by simpa using h
      have hE : s.askE t b = 131 := by unfold MS.askE; rw [if_pos hm, if_pos h']
      have hS : s.askS t b = s := by unfold MS.askS; rw [if_neg (fun e => e.2.1 h')]
      rw [show s.lockB t q b = false by unfold MS.lockB; rw [if_pos h2, hE]; rfl, show s.lockE t q b = 131 by unfold MS.lockE; rw [if_pos h2, hE]; rfl, show s.lockS t q b = s by unfold MS.lockS; rw [if_pos h2, hE, hS]; rfl]
      clear hm hnf ha h2 h' hE hS
      rcases h5 with h5 | ⟨h5, h6⟩
      all_goals
        go_enter Try.func43, Try.ntmps43
        go_wp2_with (first | (go_at_call 64; refine (qthreadc t _).mono ?_; rintro e w' ⟨rfl, rfl⟩; rw [HT.out]) | (go_at_call 65; refine (qprioc _ _).mono ?_; rintro e w' ⟨rfl, rfl⟩; first | rw [HP1.out] | rw [HP2.out]) | (go_at_call 66; refine HA.out.mono ?_; rintro e w' ⟨rfl, rfl⟩))
        go_ret2
        exact ⟨rfl, .same HQ.out (Chg.refl _ _)⟩
    · have h' : ¬ s.st = 2 := by simpa using h
      have hE : s.askE t b = 16 := ask16 hm h' (hnf g1)
      have hS : s.askS t b = s := MS.askS_wait hE
      rw [show s.lockB t q b = false by unfold MS.lockB; simp [h2, hE, g1, g2, g3], show s.lockE t q b = 11 by unfold MS.lockE; simp [h2, hE, g1, g2, g3], show s.lockS t q b = s by unfold MS.lockS; simp [h2, hE, g1, g2, g3]]
      have q1 : (s.own == t) = true := by simpa using g1
      have q2 : (s.k == 2) = true := by simpa using g2
      have q3 : (s.cnt == 32767) = true := by simpa using g3
      clear hm hnf ha h2 h' hE hS g1 g2 g3
      rcases h5 with h5 | ⟨h5, h6⟩
      all_goals
        go_enter Try.func43, Try.ntmps43
        go_wp2_with (first | (go_at_call 64; refine (qthreadc t _).mono ?_; rintro e w' ⟨rfl, rfl⟩; rw [HT.out]) | (go_at_call 65; refine (qprioc _ _).mono ?_; rintro e w' ⟨rfl, rfl⟩; first | rw [HP1.out] | rw [HP2.out]) | (go_at_call 66; refine HA.out.mono ?_; rintro e w' ⟨rfl, rfl⟩))
        go_ret2
        exact ⟨rfl, .same HQ.out (Chg.refl _ _)⟩
    · have h' : ¬ s.st = 2 := by simpa using h
      have hE : s.askE t b = 16 := ask16 hm h' (hnf g1)
      have hS : s.askS t b = s := MS.askS_wait hE
      have g3' : ¬ 32767 ≤ s.cnt := by omega
      rw [show s.lockB t q b = true by unfold MS.lockB; simp [h2, hE, g1, g2, g3'], show s.lockE t q b = 0 by unfold MS.lockE; simp [h2, hE, g1, g2, g3'], show s.lockS t q b = { s with cnt := s.cnt + 1 } by unfold MS.lockS; simp [h2, hE, g1, g2, g3']]
      have q1 : (s.own == t) = true := by simpa using g1
      have q2 : (s.k == 2) = true := by simpa using g2
      have q3 : (s.cnt == 32767) = false := by simp; omega
      have q4 : s.cnt < 32767 := g3
      clear hm hnf ha h2 h' hE hS g1 g2 g3 g3'
      rcases h5 with h5 | ⟨h5, h6⟩
      all_goals
        go_enter Try.func43, Try.ntmps43
        go_wp2_with (first | (go_at_call 64; refine (qthreadc t _).mono ?_; rintro e w' ⟨rfl, rfl⟩; rw [HT.out]) | (go_at_call 65; refine (qprioc _ _).mono ?_; rintro e w' ⟨rfl, rfl⟩; first | rw [HP1.out] | rw [HP2.out]) | (go_at_call 66; refine HA.out.mono ?_; rintro e w' ⟨rfl, rfl⟩))
        go_ret2
        exact ⟨rfl, .same HC1.out.1 (HC1.out.2.mono (by simp))⟩
    · have h' : ¬ s.st = 2 := by simpa using h
      have hE : s.askE t b = 16 := ask16 hm h' (hnf g1)
      have hS : s.askS t b = s := MS.askS_wait hE
      rw [show s.lockB t q b = false by unfold MS.lockB; simp [h2, hE, g1, g2], show s.lockE t q b = 35 by unfold MS.lockE; simp [h2, hE, g1, g2], show s.lockS t q b = s by unfold MS.lockS; simp [h2, hE, g1, g2]]
      have q1 : (s.own == t) = true := by simpa using g1
      have q2 : (s.k == 2) = false := by simp [g2]
      have q3 : (s.k == 1) = true := by simpa using g2
      clear hm hnf ha h2 h' hE hS g1 g2
      rcases h5 with h5 | ⟨h5, h6⟩
      all_goals
        go_enter Try.func43, Try.ntmps43
        go_wp2_with (first | (go_at_call 64; refine (qthreadc t _).mono ?_; rintro e w' ⟨rfl, rfl⟩; rw [HT.out]) | (go_at_call 65; refine (qprioc _ _).mono ?_; rintro e w' ⟨rfl, rfl⟩; first | rw [HP1.out] | rw [HP2.out]) | (go_at_call 66; refine HA.out.mono ?_; rintro e w' ⟨rfl, rfl⟩))
        go_ret2
        exact ⟨rfl, .same HQ.out (Chg.refl _ _)⟩
    · have h' : ¬ s.st = 2 := by simpa using h
      have hE : s.askE t b = 16 := ask16 hm h' (hnf g1)
      have hS : s.askS t b = s := MS.askS_wait hE
      have hput : putL s.L t q = s.L ++ [(t, q)] := by unfold putL; rw [if_pos ha]
      rw [show s.lockB t q b = false by unfold MS.lockB; simp [h2, hE, g1, g3], show s.lockE t q b = 0 by unfold MS.lockE; simp [h2, hE, g1, g2, g3], show s.lockS t q b = { s with L := s.L ++ [(t, q)] } by unfold MS.lockS; simp [h2, hE, g1, g2, g3, hput]]
      have q1 : (s.own == t) = true := by simpa using g1
      have q2 : (s.k == 2) = false := by simpa using g3
      have q3 : (s.k == 1) = false := by simpa using g2
      clear hm hnf ha h2 h' hE hS g1 g2 g3 hput
      rcases h5 with h5 | ⟨h5, h6⟩
      all_goals
        go_enter Try.func43, Try.ntmps43
        go_wp2_with (first | (go_at_call 64; refine (qthreadc t _).mono ?_; rintro e w' ⟨rfl, rfl⟩; rw [HT.out]) | (go_at_call 65; refine (qprioc _ _).mono ?_; rintro e w' ⟨rfl, rfl⟩; first | rw [HP1.out] | rw [HP2.out]) | (go_at_call 66; refine HA.out.mono ?_; rintro e w' ⟨rfl, rfl⟩) | (at_builtin; refine wpList_push rfl _ _ 63 rfl 0 67 i0 (.agg #[.int .i64 0, .int .i64 0]) 2 16 Try.underlying63 hi hz0 hz1 hz2 rfl (by decide) (.slice va n vc) n (flatW s.L) rfl HV.out.2.1 [.int .i64 t, .int .i64 q] rfl rfl (by simp [Value.oneCell']) hd1 hd2 (Nat.zero_le _) ?_; intro v2 w2 ho2 hC2 hloc hnn; obtain ⟨va2, vc2, rfl⟩ := own_slice ho2; have f2 := hfz w2 (hC2.blk HV.out.1 HV.out.2.2.1); have c2 := cellB (hC2.blk HV.out.1 HV.out.2.2.1) (i := 7) (v := .slice va n vc) rfl))
        have hP := QM.pushed (l' := s.L ++ [(t, q)]) HQ.out HV.out.2.2.2 (by rw [List.length_append, flatW_snoc, ← HLen.out]; exact ho2) hC2 hloc
        go_ret2
        exact ⟨rfl, hP⟩
    · have h' : ¬ s.st = 2 := by simpa using h
      have hE : s.askE t b = s.told := by unfold MS.askE; rw [if_pos hm, if_neg h', if_pos g4]
      have hS : s.askS t b = s.took t := by unfold MS.askS; rw [if_pos ⟨hm, h', g4⟩]
      have hne : s.told ≠ 16 := by unfold MS.told; split <;> omega
      have hto : s.told = 0 ∨ s.told = 130 := by unfold MS.told; split <;> omega
      rw [show s.lockB t q b = true by unfold MS.lockB; rw [if_pos h2, hE, if_neg hne]; exact decide_eq_true hto, show s.lockE t q b = s.told by unfold MS.lockE; rw [if_pos h2, hE, if_neg hne], show s.lockS t q b = s.took t by unfold MS.lockS; rw [if_pos h2, hE, if_neg hne, hS]]
      have q1 : (s.own == t) = false := by simpa using g1
      have q2 : decide (s.own < 0) = true := decide_eq_true g2
      have q3 : (s.st != 3) = true := by simpa using g3
      clear hm hnf ha h2 h' hE hS hne hto g1 g2 g3 g4
      rcases h5 with h5 | ⟨h5, h6⟩
      all_goals
        go_enter Try.func43, Try.ntmps43
        go_wp2_with (first | (go_at_call 64; refine (qthreadc t _).mono ?_; rintro e w' ⟨rfl, rfl⟩; rw [HT.out]) | (go_at_call 65; refine (qprioc _ _).mono ?_; rintro e w' ⟨rfl, rfl⟩; first | rw [HP1.out] | rw [HP2.out]) | (go_at_call 66; refine HA.out.mono ?_; rintro e w' ⟨rfl, rfl⟩) | (go_at_call 67; refine HH.out.mono ?_; rintro e w1 ⟨rfl, hQ1, hC1⟩))
        go_ret2
        exact ⟨rfl, .same hQ1 (hC1.mono (by simp))⟩
    · have h' : ¬ s.st = 2 := by simpa using h
      have hE : s.askE t b = 16 := ask16 hm h' (by unfold MS.free; rw [decide_eq_true g3]; simp)
      have hS : s.askS t b = s := MS.askS_wait hE
      have hput : putL s.L t q = s.L ++ [(t, q)] := by unfold putL; rw [if_pos ha]
      rw [show s.lockB t q b = false by unfold MS.lockB; simp [h2, hE, g1], show s.lockE t q b = 0 by unfold MS.lockE; simp [h2, hE, g1], show s.lockS t q b = { s with L := s.L ++ [(t, q)] } by unfold MS.lockS; simp [h2, hE, g1, hput]]
      have q1 : (s.own == t) = false := by simpa using g1
      have q2 : decide (s.own < 0) = true := decide_eq_true g2
      have q3 : (s.st != 3) = false := by simpa using g3
      clear hm hnf ha h2 h' hE hS hput g1 g2 g3
      rcases h5 with h5 | ⟨h5, h6⟩
      all_goals
        go_enter Try.func43, Try.ntmps43
        go_wp2_with (first | (go_at_call 64; refine (qthreadc t _).mono ?_; rintro e w' ⟨rfl, rfl⟩; rw [HT.out]) | (go_at_call 65; refine (qprioc _ _).mono ?_; rintro e w' ⟨rfl, rfl⟩; first | rw [HP1.out] | rw [HP2.out]) | (go_at_call 66; refine HA.out.mono ?_; rintro e w' ⟨rfl, rfl⟩) | (at_builtin; refine wpList_push rfl _ _ 63 rfl 0 67 i0 (.agg #[.int .i64 0, .int .i64 0]) 2 16 Try.underlying63 hi hz0 hz1 hz2 rfl (by decide) (.slice va n vc) n (flatW s.L) rfl HV.out.2.1 [.int .i64 t, .int .i64 q] rfl rfl (by simp [Value.oneCell']) hd1 hd2 (Nat.zero_le _) ?_; intro v2 w2 ho2 hC2 hloc hnn; obtain ⟨va2, vc2, rfl⟩ := own_slice ho2; have f2 := hfz w2 (hC2.blk HV.out.1 HV.out.2.2.1); have c2 := cellB (hC2.blk HV.out.1 HV.out.2.2.1) (i := 7) (v := .slice va n vc) rfl))
        have hP := QM.pushed (l' := s.L ++ [(t, q)]) HQ.out HV.out.2.2.2 (by rw [List.length_append, flatW_snoc, ← HLen.out]; exact ho2) hC2 hloc
        go_ret2
        exact ⟨rfl, hP⟩
    · have h' : ¬ s.st = 2 := by simpa using h
      have hE : s.askE t b = 16 := ask16 hm h' (by unfold MS.free; rw [decide_eq_false (by omega)]; rfl)
      have hS : s.askS t b = s := MS.askS_wait hE
      have hput : putL s.L t q = s.L ++ [(t, q)] := by unfold putL; rw [if_pos ha]
      rw [show s.lockB t q b = false by unfold MS.lockB; simp [h2, hE, g1], show s.lockE t q b = 0 by unfold MS.lockE; simp [h2, hE, g1], show s.lockS t q b = { s with L := s.L ++ [(t, q)] } by unfold MS.lockS; simp [h2, hE, g1, hput]]
      have q1 : (s.own == t) = false := by simpa using g1
      have q2 : decide (s.own < 0) = false := decide_eq_false g2
      clear hm hnf ha h2 h' hE hS hput g1 g2
      rcases h5 with h5 | ⟨h5, h6⟩
      all_goals
        go_enter Try.func43, Try.ntmps43
        go_wp2_with (first | (go_at_call 64; refine (qthreadc t _).mono ?_; rintro e w' ⟨rfl, rfl⟩; rw [HT.out]) | (go_at_call 65; refine (qprioc _ _).mono ?_; rintro e w' ⟨rfl, rfl⟩; first | rw [HP1.out] | rw [HP2.out]) | (go_at_call 66; refine HA.out.mono ?_; rintro e w' ⟨rfl, rfl⟩) | (at_builtin; refine wpList_push rfl _ _ 63 rfl 0 67 i0 (.agg #[.int .i64 0, .int .i64 0]) 2 16 Try.underlying63 hi hz0 hz1 hz2 rfl (by decide) (.slice va n vc) n (flatW s.L) rfl HV.out.2.1 [.int .i64 t, .int .i64 q] rfl rfl (by simp [Value.oneCell']) hd1 hd2 (Nat.zero_le _) ?_; intro v2 w2 ho2 hC2 hloc hnn; obtain ⟨va2, vc2, rfl⟩ := own_slice ho2; have f2 := hfz w2 (hC2.blk HV.out.1 HV.out.2.2.1); have c2 := cellB (hC2.blk HV.out.1 HV.out.2.2.1) (i := 7) (v := .slice va n vc) rfl))
        have hP := QM.pushed (l' := s.L ++ [(t, q)]) HQ.out HV.out.2.2.2 (by rw [List.length_append, flatW_snoc, ← HLen.out]; exact ho2) hC2 hloc
        go_ret2
        exact ⟨rfl, hP⟩

end Go.Proofs.Ytagnobmdcchcaaa
