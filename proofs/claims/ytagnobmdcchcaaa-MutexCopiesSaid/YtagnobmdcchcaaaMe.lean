
/- Package mutex: Unlock, Ended, New, Copy, Same: contracts. -/
import Derived.Test.YtagnobmdcchcaaaMd
namespace Go.Proofs.Ytagnobmdcchcaaa
open Go.RowKit

def UnP (cb ab mb : Nat) (N : Int) (s' : MS) (l : WL) (r : Int) (w : World) (e : Ending) (w' : World) : Prop :=
  ∃ v, e = .returned (.tuple #[v, .int .i64 r]) ∧ OwnK w' w.heap.size v l ∧ MAt w' cb ab mb N s' ∧ Chg [cb, ab, mb] w w'

set_option maxRecDepth 100000 in
set_option maxHeartbeats 2000000 in
theorem munlockc (cb ab mb : Nat) (N : Int) (s : MS) (t : Int) (w : World) (h : MAt w cb ab mb N s) (hM : s.cnt ≤ 32767) :
    Calls Try.prog 13 #[.pointer (some ⟨cb, 0, none⟩), .int .i64 t] w (UnP cb ab mb N (s.unS t) (s.unW t) (s.unE t) w) := by
  by_cases h1 : thB t = true
  · by_cases h2 : s.own = t
    · rw [show s.unE t = 0 by unfold MS.unE; simp [h1, h2]]
      by_cases h3 : 1 < s.cnt
      · rw [show s.unS t = { s with cnt := s.cnt - 1 } by unfold MS.unS; simp [h1, h2, h3], show s.unW t = [] by unfold MS.unW; simp [h1, h2, h3]]
        have c4 := cellB h.head (i := 4) (v := .int .i64 s.own) rfl
        have c5 := cellB h.head (i := 5) (v := .int .i64 s.cnt) rfl
        have f5 := frozenB h.head 5
        have q1 : (s.own != t) = false := by simpa using h2
        have q3 : decide (1 < s.cnt) = true := decide_eq_true h3
        have hw : IntKind.i64.wrap (s.cnt - 1) = s.cnt - 1 := by simp [IntKind.wrap, IntKind.signed, IntKind.bits]; omega
        have q5 : 1 < s.cnt := h3
        have HI := Lib.hid (misc cb ab mb N s w h)
        have HT := Lib.hid h1
        have HP := Lib.hid (h.putCnt (s.cnt - 1))
        clear h h1 h2 h3
        go_enter Try.func13, Try.ntmps13
        go_wp2_with (first | (go_at_call 36; refine HI.out.mono ?_; rintro e w' ⟨rfl, rfl⟩) | (go_at_call 37; refine (mthreadc t _).mono ?_; rintro e w' ⟨rfl, rfl⟩; rw [HT.out]))
        go_ret2
        exact ⟨_, rfl, World.ownsRow_nil .., HP.out.1, HP.out.2.mono (by simp)⟩
      · by_cases h4 : s.st = 1
        · rw [show s.unS t = { s with own := -1, cnt := 0, st := 2, L := [] } by unfold MS.unS; simp [h1, h2, h3, h4], show s.unW t = lostW (ordT s.L) by unfold MS.unW lostW; simp [h1, h2, h3, h4]]
          exact mlostc cb ab mb N s t w h h1 h2 h3 h4
        · rw [show s.unS t = s.nextS by unfold MS.unS; simp [h1, h2, h3, h4], show s.unW t = s.nextW by unfold MS.unW; simp [h1, h2, h3, h4]]
          have c4 := cellB h.head (i := 4) (v := .int .i64 s.own) rfl
          have c5 := cellB h.head (i := 5) (v := .int .i64 s.cnt) rfl
          have c6 := cellB h.head (i := 6) (v := .int .i64 s.st) rfl
          have q1 : (s.own != t) = false := by simpa using h2
          have q3 : decide (1 < s.cnt) = false := decide_eq_false h3
          have q4 : (s.st != 1) = true := by simpa using h4
          have HI := Lib.hid (misc cb ab mb N s w h)
          have HT := Lib.hid h1
          have HN := Lib.hid (mnextc cb ab mb N s w h)
          clear h h1 h2 h3 h4
          go_enter Try.func13, Try.ntmps13
          go_wp2_with (first | (go_at_call 36; refine HI.out.mono ?_; rintro e w' ⟨rfl, rfl⟩) | (go_at_call 37; refine (mthreadc t _).mono ?_; rintro e w' ⟨rfl, rfl⟩; rw [HT.out]))
          refine HN.out.mono ?_
          rintro e w1 ⟨v, rfl, hO, hM, hC⟩
          have H1 := Lib.hid (And.intro hO (And.intro hM hC))
          clear hO hM hC
          go_wp2
          go_ret2
          exact ⟨v, rfl, H1.out.1, H1.out.2.1, H1.out.2.2⟩
    · rw [show s.unE t = 1 by unfold MS.unE; simp [h1, h2], show s.unS t = s by unfold MS.unS; simp [h2], show s.unW t = [] by unfold MS.unW; simp [h2]]
      have c4 := cellB h.head (i := 4) (v := .int .i64 s.own) rfl
      have q1 : (s.own != t) = true := by simpa using h2
      have HI := Lib.hid (misc cb ab mb N s w h)
      have HT := Lib.hid h1
      have HM := Lib.hid h
      clear h h1 h2
      go_enter Try.func13, Try.ntmps13
      go_wp2_with (first | (go_at_call 36; refine HI.out.mono ?_; rintro e w' ⟨rfl, rfl⟩) | (go_at_call 37; refine (mthreadc t _).mono ?_; rintro e w' ⟨rfl, rfl⟩; rw [HT.out]))
      go_ret2
      exact ⟨_, rfl, World.ownsRow_nil .., HM.out, Chg.refl _ _⟩
  · have h1' : thB t = false := by simpa using h1
    rw [show s.unE t = 22 by unfold MS.unE; simp [h1'], show s.unS t = s by unfold MS.unS; simp [h1'], show s.unW t = [] by unfold MS.unW; simp [h1']]
    have HI := Lib.hid (misc cb ab mb N s w h)
    have HT := Lib.hid h1'
    have HM := Lib.hid h
    clear h h1 h1'
    go_enter Try.func13, Try.ntmps13
    go_wp2_with (first | (go_at_call 36; refine HI.out.mono ?_; rintro e w' ⟨rfl, rfl⟩) | (go_at_call 37; refine (mthreadc t _).mono ?_; rintro e w' ⟨rfl, rfl⟩; rw [HT.out]))
    go_ret2
    exact ⟨_, rfl, World.ownsRow_nil .., HM.out, Chg.refl _ _⟩

set_option maxRecDepth 100000 in
set_option maxHeartbeats 2000000 in
theorem mendedc (cb ab mb : Nat) (N : Int) (s : MS) (t : Int) (w : World) (h : MAt w cb ab mb N s) :
    Calls Try.prog 17 #[.pointer (some ⟨cb, 0, none⟩), .int .i64 t] w (WokP cb ab mb N (s.enS t) (s.enW t) w) := by
  have c3 := cellB h.head (i := 3) (v := .bool s.rob) rfl
  have c4 := cellB h.head (i := 4) (v := .int .i64 s.own) rfl
  have c5 := cellB h.head (i := 5) (v := .int .i64 s.cnt) rfl
  have c6 := cellB h.head (i := 6) (v := .int .i64 s.st) rfl
  have f4 := frozenB h.head 4
  have f5 := frozenB h.head 5
  have f6 := frozenB h.head 6
  have HI := Lib.hid (misc cb ab mb N s w h)
  by_cases h1 : thB t = true
  · have HT := Lib.hid h1
    by_cases h2 : s.own = t
    · have q1 : (s.own != t) = false := by simpa using h2
      by_cases h3 : s.rob = true
      · rw [show s.enS t = ({ s with st := 1 } : MS).nextS by unfold MS.enS; simp [h1, h2, h3], show s.enW t = ({ s with st := 1 } : MS).nextW by unfold MS.enW; simp [h1, h2, h3]]
        have hP := h.putSt 1
        have hN := mnextc cb ab mb N _ _ hP.1
        have HN := Lib.hid (And.intro hN (hP.2.mono (show ∀ k ∈ [cb], k ∈ [cb, ab, mb] ∨ _ by simp)))
        rw [h3] at c3
        clear h h1 h2 h3 hP hN c5 f4 f5
        go_enter Try.func17, Try.ntmps17
        go_wp2_with (first | (go_at_call 36; refine HI.out.mono ?_; rintro e w' ⟨rfl, rfl⟩) | (go_at_call 37; refine (mthreadc t _).mono ?_; rintro e w' ⟨rfl, rfl⟩; rw [HT.out]))
        refine HN.out.1.mono ?_
        rintro e w1 ⟨v, rfl, hO, hM, hC⟩
        have H1 := Lib.hid (And.intro (own_mono hO HN.out.2.size) (And.intro hM (HN.out.2.trans hC)))
        clear hO hM hC
        go_wp2
        go_ret
        exact ⟨v, rfl, H1.out.1, H1.out.2.1, H1.out.2.2⟩
      · have h3' : s.rob = false := by simpa using h3
        rw [show s.enS t = { s with own := -1, cnt := 0, st := 3 } by unfold MS.enS; simp [h1, h2, h3'], show s.enW t = [] by unfold MS.enW; simp [h3']]
        have hP := ((h.putOwn (-1)).1.putCnt 0).1.putSt 3
        have hC := ((h.putOwn (-1)).2.trans ((h.putOwn (-1)).1.putCnt 0).2).trans hP.2
        have HP := Lib.hid (And.intro hP.1 (hC.mono (show ∀ k ∈ [cb], k ∈ [cb, ab, mb] ∨ _ by simp)))
        rw [h3'] at c3
        clear h h1 h2 h3 h3' hP hC
        go_enter Try.func17, Try.ntmps17
        go_wp2_with (first | (go_at_call 36; refine HI.out.mono ?_; rintro e w' ⟨rfl, rfl⟩) | (go_at_call 37; refine (mthreadc t _).mono ?_; rintro e w' ⟨rfl, rfl⟩; rw [HT.out]))
        go_ret
        exact ⟨_, rfl, World.ownsRow_nil .., HP.out.1, HP.out.2⟩
    · have q1 : (s.own != t) = true := by simpa using h2
      rw [show s.enS t = s by unfold MS.enS; simp [h2], show s.enW t = [] by unfold MS.enW; simp [h2]]
      have HM := Lib.hid h
      clear h h1 h2 c3 c5 c6 f4 f5 f6
      go_enter Try.func17, Try.ntmps17
      go_wp2_with (first | (go_at_call 36; refine HI.out.mono ?_; rintro e w' ⟨rfl, rfl⟩) | (go_at_call 37; refine (mthreadc t _).mono ?_; rintro e w' ⟨rfl, rfl⟩; rw [HT.out]))
      go_ret
      exact ⟨_, rfl, World.ownsRow_nil .., HM.out, Chg.refl _ _⟩
  · have h1' : thB t = false := by simpa using h1
    have HT := Lib.hid h1'
    rw [show s.enS t = s by unfold MS.enS; simp [h1'], show s.enW t = [] by unfold MS.enW; simp [h1']]
    have HM := Lib.hid h
    clear h h1 h1' c3 c5 c6 f4 f5 f6
    go_enter Try.func17, Try.ntmps17
    go_wp2_with (first | (go_at_call 36; refine HI.out.mono ?_; rintro e w' ⟨rfl, rfl⟩) | (go_at_call 37; refine (mthreadc t _).mono ?_; rintro e w' ⟨rfl, rfl⟩; rw [HT.out]))
    go_ret
    exact ⟨_, rfl, World.ownsRow_nil .., HM.out, Chg.refl _ _⟩

def MNewP (s : MS) (w : World) (e : Ending) (w' : World) : Prop :=
  ∃ cb ab mb, e = .returned (.tuple #[.pointer (some ⟨cb, 0, none⟩), .int .i64 0]) ∧ (w.heap.size ≤ cb ∧ w.heap.size ≤ ab ∧ w.heap.size ≤ mb) ∧ MAt w' cb ab mb 0 s ∧ Chg [] w w'

set_option maxRecDepth 100000 in
set_option maxHeartbeats 2000000 in
theorem mnewc (k p c : Int) (rob : Bool) (w : World) (h : mnewB k p c = true) : Calls Try.prog 10 #[.int .i64 k, .int .i64 p, .int .i64 c, .bool rob] w (MNewP (mnew k p c rob) w) := by
  unfold mnewB at h
  simp only [Bool.and_eq_true, decide_eq_true_eq] at h
  obtain ⟨⟨h1, h2, h3, h4⟩, h5⟩ := h
  have q1 : decide (k < 0) = false := decide_eq_false (by omega)
  have q2 : decide (2 < k) = false := decide_eq_false (by omega)
  have q3 : decide (p < 0) = false := decide_eq_false (by omega)
  have q4 : decide (2 < p) = false := decide_eq_false (by omega)
  have hc : (p = 2 ∧ 1 ≤ c ∧ c ≤ 31) ∨ (p ≠ 2 ∧ c = 0) := by
    by_cases hp : p = 2
    · rw [if_pos hp] at h5
      left; exact ⟨hp, by simpa using h5⟩
    · rw [if_neg hp] at h5
      right; exact ⟨hp, by simpa using h5⟩
  clear h5 h1 h2 h3 h4
  rcases hc with ⟨hp, hc1, hc2⟩ | ⟨hp, rfl⟩
  · have q5 : (p == 2) = true := by simpa using hp
    have q6 : decide (c < 1) = false := decide_eq_false (by omega)
    have q7 : decide (31 < c) = false := decide_eq_false (by omega)
    clear hp hc1 hc2
    go_enter Try.func10, Try.ntmps10
    go_wp2_with fail
    refine (newc w).mono ?_
    rintro e w1 ⟨ab, mb, rfl, hab, hmb, hW, hC⟩
    have H := Lib.hid (And.intro hW (And.intro hC (And.intro hab hmb)))
    clear hW hC hab hmb
    go_wp2
    go_ret2
    have hC2 : Chg [] w1 (w1.alloc (.cells (mcells ab (mnew k p c rob)) 71)) := (Chg.refl _ _).alloc _
    exact ⟨w1.heap.size, ab, mb, rfl, ⟨H.out.2.1.size, H.out.2.2.1, H.out.2.2.2⟩, ⟨heap_alloc_eq w1 _, H.out.1.kept hC2 (by simp) (by simp)⟩, H.out.2.1.trans hC2⟩
  · have q5 : (p == 2) = false := by simpa using hp
    clear hp
    go_enter Try.func10, Try.ntmps10
    go_wp2_with fail
    refine (newc w).mono ?_
    rintro e w1 ⟨ab, mb, rfl, hab, hmb, hW, hC⟩
    have H := Lib.hid (And.intro hW (And.intro hC (And.intro hab hmb)))
    clear hW hC hab hmb
    go_wp2
    go_ret2
    have hC2 : Chg [] w1 (w1.alloc (.cells (mcells ab (mnew k p 0 rob)) 71)) := (Chg.refl _ _).alloc _
    exact ⟨w1.heap.size, ab, mb, rfl, ⟨H.out.2.1.size, H.out.2.2.1, H.out.2.2.2⟩, ⟨heap_alloc_eq w1 _, H.out.1.kept hC2 (by simp) (by simp)⟩, H.out.2.1.trans hC2⟩

set_option maxRecDepth 100000 in
set_option maxHeartbeats 2000000 in
theorem mnew_no (k p c : Int) (rob : Bool) (w : World) (h : mnewB k p c = false) : Calls Try.prog 10 #[.int .i64 k, .int .i64 p, .int .i64 c, .bool rob] w fun e w' => e = .returned (.tuple #[.pointer none, .int .i64 2]) ∧ w = w' := by
  have hc : k < 0 ∨ (¬ k < 0 ∧ 2 < k) ∨ ((¬ k < 0 ∧ ¬ 2 < k) ∧ p < 0) ∨ ((¬ k < 0 ∧ ¬ 2 < k) ∧ ¬ p < 0 ∧ 2 < p) ∨
      ((¬ k < 0 ∧ ¬ 2 < k) ∧ (¬ p < 0 ∧ ¬ 2 < p) ∧ ((p = 2 ∧ (c < 1 ∨ (¬ c < 1 ∧ 31 < c))) ∨ (p ≠ 2 ∧ (c < 0 ∨ (¬ c < 0 ∧ 0 < c))))) := by
    unfold mnewB at h
    by_cases hp : p = 2
    · rw [if_pos hp] at h
      simp at h
      omega
    · rw [if_neg hp] at h
      simp at h
      omega
  clear h
  have HPP : (p == 2) = true ∨ (p == 2) = false := by cases (p == 2) <;> simp
  rcases hc with h1 | ⟨h1, h2⟩ | ⟨⟨h1, h2⟩, h3⟩ | ⟨⟨h1, h2⟩, h3, h4⟩ | ⟨⟨h1, h2⟩, ⟨h3, h4⟩, ⟨h5, h6 | ⟨h6, h7⟩⟩ | ⟨h5, h6 | ⟨h6, h7⟩⟩⟩
  case' inl => have q1 := decide_eq_true h1
  case' inr.inl => have q1 := decide_eq_false h1; have q2 := decide_eq_true h2
  case' inr.inr.inl => have q1 := decide_eq_false h1; have q2 := decide_eq_false h2; have q3 := decide_eq_true h3; have q5 : (p == 2) = false := by simp; omega
  case' inr.inr.inr.inl => have q1 := decide_eq_false h1; have q2 := decide_eq_false h2; have q3 := decide_eq_false h3; have q4 := decide_eq_true h4; have q5 : (p == 2) = false := by simp; omega
  case' inr.inr.inr.inr.inl.inl => have q1 := decide_eq_false h1; have q2 := decide_eq_false h2; have q3 := decide_eq_false h3; have q4 := decide_eq_false h4; have q5 : (p == 2) = true := (by simpa using h5); have q6 := decide_eq_true h6
  case' inr.inr.inr.inr.inl.inr => have q1 := decide_eq_false h1; have q2 := decide_eq_false h2; have q3 := decide_eq_false h3; have q4 := decide_eq_false h4; have q5 : (p == 2) = true := (by simpa using h5); have q6 := decide_eq_false h6; have q7 := decide_eq_true h7
  case' inr.inr.inr.inr.inr.inl => have q1 := decide_eq_false h1; have q2 := decide_eq_false h2; have q3 := decide_eq_false h3; have q4 := decide_eq_false h4; have q5 : (p == 2) = false := (by simpa using h5); have q6 := decide_eq_true h6
  case' inr.inr.inr.inr.inr.inr => have q1 := decide_eq_false h1; have q2 := decide_eq_false h2; have q3 := decide_eq_false h3; have q4 := decide_eq_false h4; have q5 : (p == 2) = false := (by simpa using h5); have q6 := decide_eq_false h6; have q7 := decide_eq_true h7
  all_goals
    try clear h7
    try clear h6
    try clear h5
    try clear h4
    try clear h3
    try clear h2
    clear h1
    rcases HPP with r5 | r5
    all_goals
      try (exfalso; rw [q5] at r5; cases r5; done)
    all_goals
      go_enter Try.func10, Try.ntmps10
      go_wp2
      go_ret2
      exact ⟨rfl, rfl⟩

end Go.Proofs.Ytagnobmdcchcaaa
