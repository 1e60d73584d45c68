
/- Package mutex: Try, Consistent, Leave, Change, Ceil: contracts. -/
import Derived.Test.YtagnobmdcchcaaaMb
namespace Go.Proofs.Ytagnobmdcchcaaa
open Go.RowKit

set_option maxRecDepth 100000 in
set_option maxHeartbeats 1000000 in
theorem mtryc (cb ab mb : Nat) (N : Int) (s : MS) (t b : Int) (w : World) (h : MAt w cb ab mb N s) (hcnt : 0 ≤ s.cnt) :
    Calls Try.prog 15 #[.pointer (some ⟨cb, 0, none⟩), .int .i64 t, .int .i64 b] w fun e w' => e = .returned (.int .i64 (s.tryE t b)) ∧ MAt w' cb ab mb N (s.tryS t b) ∧ Chg [cb] w w' := by
  have HA := Lib.hid (maskc cb ab mb N s t b w h)
  have HCn := Lib.hid hcnt
  clear h hcnt
  by_cases h2 : s.askE t b = 16
  · have hs := MS.askS_wait h2
    rw [hs, h2] at HA
    by_cases h3 : s.own = t
    · have q3 : (s.own == t) = true := by simpa using h3
      by_cases h5 : s.k = 2
      · have q5 : (s.k == 2) = true := by simpa using h5
        rw [show s.tryE t b = if 32767 ≤ s.cnt then 11 else 0 by unfold MS.tryE; simp [h2, h3, h5], show s.tryS t b = if 32767 ≤ s.cnt then s else { s with cnt := s.cnt + 1 } by unfold MS.tryS; simp [h2, h3, h5]]
        have hG := fun (W : World) (hW : MAt W cb ab mb N s) => magainc cb ab mb N s W hW HCn.out
        generalize decide (¬ 32767 ≤ s.cnt) = xb at hG ⊢
        generalize (if 32767 ≤ s.cnt then (11 : Int) else 0) = xe at hG ⊢
        generalize (if 32767 ≤ s.cnt then s else { s with cnt := s.cnt + 1 }) = s2 at hG ⊢
        have HG := Lib.hid hG
        clear h2 hs h3 h5 hG
        go_enter Try.func15, Try.ntmps15
        go_wp2_with fail
        refine HA.out.mono ?_
        rintro e w1 ⟨rfl, hM, hC⟩
        have c0 := cellB hM.head (i := 0) (v := .int .i64 s.k) rfl
        have c4 := cellB hM.head (i := 4) (v := .int .i64 s.own) rfl
        have HC := Lib.hid (And.intro hM hC)
        clear hM hC
        go_wp2_with fail
        refine (HG.out _ HC.out.1).mono ?_
        rintro e w2 ⟨rfl, hM, hC2⟩
        have H2 := Lib.hid (And.intro hM (HC.out.2.trans hC2))
        clear hM hC2
        go_wp2
        go_ret
        exact ⟨rfl, H2.out.1, H2.out.2⟩
      · have q5 : (s.k == 2) = false := by simpa using h5
        rw [show s.tryE t b = 16 by unfold MS.tryE; simp [h2, h5], show s.tryS t b = s by unfold MS.tryS; simp [h2, h5, hs]]
        clear h2 hs h3 h5
        go_enter Try.func15, Try.ntmps15
        go_wp2_with fail
        refine HA.out.mono ?_
        rintro e w1 ⟨rfl, hM, hC⟩
        have c0 := cellB hM.head (i := 0) (v := .int .i64 s.k) rfl
        have c4 := cellB hM.head (i := 4) (v := .int .i64 s.own) rfl
        have HC := Lib.hid (And.intro hM hC)
        clear hM hC
        go_wp2
        go_ret
        exact ⟨rfl, HC.out.1, HC.out.2⟩
    · have q3 : (s.own == t) = false := by simpa using h3
      rw [show s.tryE t b = 16 by unfold MS.tryE; simp [h2, h3], show s.tryS t b = s by unfold MS.tryS; simp [h2, h3, hs]]
      clear h2 hs h3
      go_enter Try.func15, Try.ntmps15
      go_wp2_with fail
      refine HA.out.mono ?_
      rintro e w1 ⟨rfl, hM, hC⟩
      have c0 := cellB hM.head (i := 0) (v := .int .i64 s.k) rfl
      have c4 := cellB hM.head (i := 4) (v := .int .i64 s.own) rfl
      have HC := Lib.hid (And.intro hM hC)
      clear hM hC
      go_wp2
      go_ret
      exact ⟨rfl, HC.out.1, HC.out.2⟩
  · rw [show s.tryE t b = s.askE t b by unfold MS.tryE; simp [h2], show s.tryS t b = s.askS t b by unfold MS.tryS; simp [h2]]
    obtain ⟨r, hr⟩ : ∃ r, r = s.askE t b := ⟨_, rfl⟩
    rw [← hr] at HA h2 ⊢
    clear hr
    have q2 : (r == 16) = false := by simpa using h2
    clear h2
    go_enter Try.func15, Try.ntmps15
    go_wp2_with fail
    refine HA.out.mono ?_
    rintro e w1 ⟨rfl, hM, hC⟩
    have HC := Lib.hid (And.intro hM hC)
    clear hM hC
    go_wp2
    go_ret
    exact ⟨rfl, HC.out.1, HC.out.2⟩

set_option maxRecDepth 100000 in
set_option maxHeartbeats 1000000 in
theorem mleavec (cb ab mb : Nat) (N : Int) (s : MS) (t : Int) (w : World) (h : MAt w cb ab mb N s) :
    Calls Try.prog 18 #[.pointer (some ⟨cb, 0, none⟩), .int .i64 t] w fun e w' => e = .returned (.bool (s.lvB t)) ∧ MAt w' cb ab mb N (s.lvS t) ∧ Chg [cb, ab, mb] w w' := by
  have c7 := cellB h.head (i := 7) (v := .pointer (some ⟨ab, 0, none⟩)) rfl
  have HI := Lib.hid (misc cb ab mb N s w h)
  have HL := Lib.hid (leavec ab mb N s.L t w h.list)
  have HM := Lib.hid h
  clear h
  by_cases h1 : thB t = true
  · have HT := Lib.hid h1
    unfold MS.lvB MS.lvS
    obtain ⟨r, hr⟩ : ∃ r, r = askR s.L t 1 true := ⟨_, rfl⟩
    rw [← hr] at HL ⊢
    rw [show decide (r = 0) = (r == 0) from rfl]
    clear h1 hr
    go_enter Try.func18, Try.ntmps18
    go_wp2_with (first | (go_at_call 36; refine HI.out.mono ?_; rintro e w' ⟨rfl, rfl⟩) | (go_at_call 37; refine (mthreadc t _).mono ?_; rintro e w' ⟨rfl, rfl⟩; rw [HT.out]))
    refine HL.out.mono ?_
    rintro e w1 ⟨rfl, hW, hC⟩
    have H1 := Lib.hid (And.intro (HM.out.step hW hC) hC)
    clear hW hC
    go_wp2
    go_ret
    exact ⟨rfl, H1.out.1, H1.out.2.mono (by simp)⟩
  · have h1' : thB t = false := by simpa using h1
    have HT := Lib.hid h1'
    have ha : askR s.L t 1 true = 2 := by
      unfold askR
      have := thB_no.1 h1'
      unfold okT at this
      rw [if_pos (by omega)]
    have hb : s.lvB t = false := by unfold MS.lvB; rw [ha]; rfl
    have hs : s.lvS t = s := by unfold MS.lvS lvL; rw [if_neg (by omega)]
    rw [hb, hs]
    clear h1 h1' ha hb hs
    go_enter Try.func18, Try.ntmps18
    go_wp2_with (first | (go_at_call 36; refine HI.out.mono ?_; rintro e w' ⟨rfl, rfl⟩) | (go_at_call 37; refine (mthreadc t _).mono ?_; rintro e w' ⟨rfl, rfl⟩; rw [HT.out]))
    go_ret
    exact ⟨rfl, HM.out, Chg.refl _ _⟩

set_option maxRecDepth 100000 in
set_option maxHeartbeats 1000000 in
theorem mchangec (cb ab mb : Nat) (N : Int) (s : MS) (t q : Int) (w : World) (h : MAt w cb ab mb N s) :
    Calls Try.prog 20 #[.pointer (some ⟨cb, 0, none⟩), .int .i64 t, .int .i64 q] w fun e w' => e = .returned (.bool (s.chB t q)) ∧ MAt w' cb ab mb N (s.chS t q) ∧ Chg [cb, ab, mb] w w' := by
  have c7 := cellB h.head (i := 7) (v := .pointer (some ⟨ab, 0, none⟩)) rfl
  have HI := Lib.hid (misc cb ab mb N s w h)
  have HL := Lib.hid (changec ab mb N s.L t q w h.list)
  have HM := Lib.hid h
  clear h
  by_cases h1 : thB t = true ∧ prB q = true
  · have HT := Lib.hid h1.1
    have HP := Lib.hid h1.2
    unfold MS.chB MS.chS
    obtain ⟨r, hr⟩ : ∃ r, r = askR s.L t q true := ⟨_, rfl⟩
    rw [← hr] at HL ⊢
    rw [show decide (r = 0) = (r == 0) from rfl]
    clear h1 hr
    go_enter Try.func20, Try.ntmps20
    go_wp2_with (first | (go_at_call 36; refine HI.out.mono ?_; rintro e w' ⟨rfl, rfl⟩) | (go_at_call 37; refine (mthreadc t _).mono ?_; rintro e w' ⟨rfl, rfl⟩; rw [HT.out]) | (go_at_call 32; refine (mprioc q _).mono ?_; rintro e w' ⟨rfl, rfl⟩; rw [HP.out]))
    refine HL.out.mono ?_
    rintro e w1 ⟨rfl, hW, hC⟩
    have H1 := Lib.hid (And.intro (HM.out.step hW hC) hC)
    clear hW hC
    go_wp2
    go_ret
    exact ⟨rfl, H1.out.1, H1.out.2.mono (by simp)⟩
  · have ha : askR s.L t q true = 2 := by
      unfold askR
      have : ¬ (okT t ∧ okP q) := fun e => h1 ⟨thB_iff.2 e.1, prB_iff.2 e.2⟩
      unfold okT okP at this
      rw [if_pos (by omega)]
    have hb : s.chB t q = false := by unfold MS.chB; rw [ha]; rfl
    have hs : s.chS t q = s := by unfold MS.chS chgL; rw [if_neg (by omega)]
    rw [hb, hs]
    have hcase : thB t = false ∨ (thB t = true ∧ prB q = false) := by
      cases h5 : thB t <;> simp [h5] at h1 ⊢
      exact h1
    clear h1 ha hb hs
    rcases hcase with h5 | ⟨h5, h6⟩
    · have HT := Lib.hid h5
      clear h5
      go_enter Try.func20, Try.ntmps20
      go_wp2_with (first | (go_at_call 36; refine HI.out.mono ?_; rintro e w' ⟨rfl, rfl⟩) | (go_at_call 37; refine (mthreadc t _).mono ?_; rintro e w' ⟨rfl, rfl⟩; rw [HT.out]) | (go_at_call 32; refine (mprioc q _).mono ?_; rintro e w' ⟨rfl, rfl⟩; rw [HP.out]))
      go_ret
      exact ⟨rfl, HM.out, Chg.refl _ _⟩
    · have HT := Lib.hid h5
      have HP := Lib.hid h6
      clear h5 h6
      go_enter Try.func20, Try.ntmps20
      go_wp2_with (first | (go_at_call 36; refine HI.out.mono ?_; rintro e w' ⟨rfl, rfl⟩) | (go_at_call 37; refine (mthreadc t _).mono ?_; rintro e w' ⟨rfl, rfl⟩; rw [HT.out]) | (go_at_call 32; refine (mprioc q _).mono ?_; rintro e w' ⟨rfl, rfl⟩; rw [HP.out]))
      go_ret
      exact ⟨rfl, HM.out, Chg.refl _ _⟩

set_option maxRecDepth 100000 in
set_option maxHeartbeats 1000000 in
theorem mconsistc (cb ab mb : Nat) (N : Int) (s : MS) (t : Int) (w : World) (h : MAt w cb ab mb N s) :
    Calls Try.prog 16 #[.pointer (some ⟨cb, 0, none⟩), .int .i64 t] w fun e w' => e = .returned (.int .i64 (if s.csB t = true then 0 else 22)) ∧ MAt w' cb ab mb N (s.csS t) ∧ Chg [cb] w w' := by
  have c3 := cellB h.head (i := 3) (v := .bool s.rob) rfl
  have c4 := cellB h.head (i := 4) (v := .int .i64 s.own) rfl
  have c6 := cellB h.head (i := 6) (v := .int .i64 s.st) rfl
  have f6 := frozenB h.head 6
  have HI := Lib.hid (misc cb ab mb N s w h)
  have HM := Lib.hid h
  have HS := Lib.hid (h.putSt 0)
  clear h
  unfold MS.csS
  obtain ⟨bt, ht⟩ : ∃ x, x = thB t := ⟨_, rfl⟩
  obtain ⟨br, hr⟩ : ∃ x, x = s.rob := ⟨_, rfl⟩
  obtain ⟨bs, hs⟩ : ∃ x, x = (s.st == 1) := ⟨_, rfl⟩
  obtain ⟨bo, ho⟩ : ∃ x, x = (s.own == t) := ⟨_, rfl⟩
  have hcs : s.csB t = (bt && br && bs && bo) := by rw [ht, hr, hs, ho]; rfl
  rw [hcs]
  have HT := Lib.hid ht.symm
  have q1 := hs.symm
  have q2 := ho.symm
  have q3 : (s.st != 1) = !bs := by rw [hs]; rfl
  have q4 : (s.own != t) = !bo := by rw [ho]; rfl
  rw [← hr] at c3
  clear hcs ht hr hs ho
  rcases bt with _ | _ <;> rcases br with _ | _ <;> rcases bs with _ | _ <;> rcases bo with _ | _ <;> simp only [Bool.not_true, Bool.not_false] at q3 q4 <;> simp only [Bool.and_true, Bool.and_false, Bool.false_eq_true, if_false, if_true]
  all_goals
    go_enter Try.func16, Try.ntmps16
    go_wp2_with (first | (go_at_call 36; refine HI.out.mono ?_; rintro e w' ⟨rfl, rfl⟩) | (go_at_call 37; refine (mthreadc t _).mono ?_; rintro e w' ⟨rfl, rfl⟩; rw [HT.out]))
    go_ret
    first | exact ⟨rfl, HM.out, Chg.refl _ _⟩ | exact ⟨rfl, HS.out.1, HS.out.2⟩

set_option maxRecDepth 100000 in
set_option maxHeartbeats 1000000 in
theorem mceilc (cb ab mb : Nat) (N : Int) (s : MS) (t q : Int) (w : World) (h : MAt w cb ab mb N s) :
    Calls Try.prog 27 #[.pointer (some ⟨cb, 0, none⟩), .int .i64 t, .int .i64 q] w fun e w' => e = .returned (.tuple #[.int .i64 (s.ceV t q), .int .i64 (s.ceE t q)]) ∧ MAt w' cb ab mb N (s.ceS t q) ∧ Chg [cb] w w' := by
  have c1 := cellB h.head (i := 1) (v := .int .i64 s.p) rfl
  have c2 := cellB h.head (i := 2) (v := .int .i64 s.c) rfl
  have c4 := cellB h.head (i := 4) (v := .int .i64 s.own) rfl
  have f2 := frozenB h.head 2
  have HI := Lib.hid (misc cb ab mb N s w h)
  have HM := Lib.hid h
  have HS := Lib.hid (h.putC q)
  clear h
  unfold MS.ceV MS.ceS
  have hE : s.ceE t q = if thB t = true ∧ (s.p == 2) = true ∧ prB q = true then (if (s.own == -1) = false ∧ (s.own == t) = false then 16 else 0) else 22 := by unfold MS.ceE; simp
  rw [hE]
  clear hE
  obtain ⟨bt, ht⟩ : ∃ x, x = thB t := ⟨_, rfl⟩
  obtain ⟨bp, hp⟩ : ∃ x, x = (s.p == 2) := ⟨_, rfl⟩
  obtain ⟨bq, hq⟩ : ∃ x, x = prB q := ⟨_, rfl⟩
  obtain ⟨bn, hn⟩ : ∃ x, x = (s.own == -1) := ⟨_, rfl⟩
  obtain ⟨bo, ho⟩ : ∃ x, x = (s.own == t) := ⟨_, rfl⟩
  rw [← ht, ← hp, ← hq, ← hn, ← ho]
  have HT := Lib.hid ht.symm
  have HP := Lib.hid hq.symm
  have q1 : (s.p != 2) = !bp := by rw [hp]; rfl
  have q2 : (s.own != -1) = !bn := by rw [hn]; rfl
  have q3 : (s.own != t) = !bo := by rw [ho]; rfl
  have q4 := hp.symm
  have q5 := hn.symm
  have q6 := ho.symm
  clear ht hp hq hn ho
  have hc : bt = false ∨ (bt = true ∧ bp = false) ∨ (bt = true ∧ bp = true ∧ bq = false) ∨ (bt = true ∧ bp = true ∧ bq = true) := by cases bt <;> cases bp <;> cases bq <;> simp
  rcases hc with rfl | ⟨rfl, rfl⟩ | ⟨rfl, rfl, rfl⟩ | ⟨rfl, rfl, rfl⟩
  case' inr.inr.inr => rcases bn with _ | _ <;> rcases bo with _ | _ <;> simp only [Bool.not_true, Bool.not_false] at q2 q3
  all_goals
    (try simp only [Bool.not_true, Bool.not_false] at q1)
    simp only [Bool.false_eq_true, Bool.true_eq_false, false_and, and_false, and_true, and_self, if_false, if_true, Int.reduceEq]
    go_enter Try.func27, Try.ntmps27
    go_wp2_with (first | (go_at_call 36; refine HI.out.mono ?_; rintro e w' ⟨rfl, rfl⟩) | (go_at_call 37; refine (mthreadc t _).mono ?_; rintro e w' ⟨rfl, rfl⟩; rw [HT.out]) | (go_at_call 32; refine (mprioc q _).mono ?_; rintro e w' ⟨rfl, rfl⟩; rw [HP.out]))
    go_ret2
    first | exact ⟨rfl, HM.out, Chg.refl _ _⟩ | exact ⟨rfl, HS.out.1, HS.out.2⟩

end Go.Proofs.Ytagnobmdcchcaaa
