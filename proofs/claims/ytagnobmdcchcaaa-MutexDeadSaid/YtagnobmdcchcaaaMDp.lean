
/- What holds of a robust mutex whose owners may end. No program in sight. -/
import Derived.Test.YtagnobmdcchcaaaMf
namespace Go.Proofs.Ytagnobmdcchcaaa

structure DI (s : MS) (left lost : Bool) : Prop where
  ok : MOk s
  rob : s.rob = true
  hleft : left = decide (s.st = 1 ∨ s.st = 2)
  hlost : lost = decide (s.st = 2)

theorem DI.new (k : Int) : DI (mnew k 1 0 true) false false := ⟨MOk.new .., rfl, rfl, rfl⟩
theorem DI.st3 {s : MS} {left lost : Bool} (h : DI s left lost) : s.st ≠ 3 := fun e => by
  have := h.ok.rob (by omega)
  rw [h.rob, e] at this
  cases this
theorem DI.test {s : MS} {left lost : Bool} (h : DI s left lost) : (s.st == 2) = lost := by
  rw [h.hlost]; rfl

theorem askS_st (s : MS) (t b : Int) : (s.askS t b).st = s.st ∧ (s.askS t b).rob = s.rob := by unfold MS.askS MS.took; split <;> exact ⟨rfl, rfl⟩
theorem lockS_st (s : MS) (t q b : Int) : (s.lockS t q b).st = s.st ∧ (s.lockS t q b).rob = s.rob := by
  have := askS_st s t b
  unfold MS.lockS
  split
  · split
    · split
      · exact ⟨rfl, rfl⟩
      · split
        · split <;> exact ⟨rfl, rfl⟩
        · exact ⟨rfl, rfl⟩
    · exact this
  · exact ⟨rfl, rfl⟩
theorem nextS_st (s : MS) : s.nextS.st = s.st ∧ s.nextS.rob = s.rob := by unfold MS.nextS; split <;> exact ⟨rfl, rfl⟩

theorem DI.lock {s : MS} {left lost : Bool} (h : DI s left lost) (t q b : Int) : DI (s.lockS t q b) left lost :=
  ⟨h.ok.lock t q b, by rw [(lockS_st s t q b).2]; exact h.rob, by rw [(lockS_st s t q b).1]; exact h.hleft, by rw [(lockS_st s t q b).1]; exact h.hlost⟩

theorem DI.lockT {s : MS} {left lost : Bool} (h : DI s left lost) (t q b : Int) :
    (lost = true ∧ s.lockB t q b = false ∧ (s.lockE t q b == 0) = false) ∨ (lost = false ∧ s.lockB t q b = false) ∨ (lost = false ∧ s.lockB t q b = true ∧ decide (s.own < 0) = false) ∨
      (lost = false ∧ s.lockB t q b = true ∧ decide (s.own < 0) = true ∧ left = true ∧ (s.lockE t q b == 130) = true) ∨ (lost = false ∧ s.lockB t q b = true ∧ decide (s.own < 0) = true ∧ left = false ∧ (s.lockE t q b == 130) = false) := by
  by_cases hl : s.st = 2
  · left
    have hlt : lost = true := by rw [h.hlost]; exact decide_eq_true hl
    have hE : s.askE t b = 22 ∨ s.askE t b = 131 := by unfold MS.askE; split <;> simp
    refine ⟨hlt, ?_, ?_⟩
    · unfold MS.lockB
      split
      · rcases hE with e | e <;> rw [e] <;> rfl
      · rfl
    · unfold MS.lockE
      split
      · rcases hE with e | e <;> rw [e] <;> rfl
      · rfl
  · right
    have hlf : lost = false := by rw [h.hlost]; exact decide_eq_false hl
    cases hB : s.lockB t q b with
    | false => exact .inl ⟨hlf, rfl⟩
    | true =>
      right
      by_cases ho : s.own < 0
      · right
        have ho1 : s.own = -1 := by
          rcases h.ok.own with e | e
          · exact e
          · have := e.1; omega
        have hl1 : left = decide (s.st = 1) := by rw [h.hleft]; simp [hl]
        have hE : s.lockE t q b = s.told := by
          unfold MS.lockB at hB
          unfold MS.lockE
          split at hB
          · rename_i hq
            rw [if_pos hq]
            split at hB
            · rename_i hw
              have hm := (may_ok (MS.askE_wait hw).1).1.1
              simp at hB
              omega
            · rename_i hw
              rw [if_neg hw]
              have hB' := of_decide_eq_true hB
              unfold MS.askE at hB' hw ⊢
              split
              · rename_i hm
                have hf : s.free = true := by unfold MS.free; rw [decide_eq_true ho1, decide_eq_false h.st3]; rfl
                rw [if_pos hf]
              · rename_i hm
                rw [if_neg hm] at hB'
                omega
          · cases hB
        rw [hE]
        by_cases h1 : s.st = 1
        · left
          exact ⟨hlf, rfl, decide_eq_true ho, by rw [hl1]; exact decide_eq_true h1, by unfold MS.told; rw [if_pos h1]; rfl⟩
        · right
          exact ⟨hlf, rfl, decide_eq_true ho, by rw [hl1]; exact decide_eq_false h1, by unfold MS.told; rw [if_neg h1]; rfl⟩
      · exact .inl ⟨hlf, rfl, decide_eq_false ho⟩

/-- What is told with a list of those who go on. -/
def WokOk (l : WL) (lost : Bool) : Prop := l.length ≤ 16 ∧ ∀ x ∈ l, (x.2 == 130) = false ∧ (x.2 == 131) = lost

theorem DI.un {s : MS} {left lost : Bool} (h : DI s left lost) (hL : ListOk s.L) (h16 : s.L.length ≤ 16) (t : Int) :
    ((s.unE t == 0) = false ∧ DI (s.unS t) left lost ∧ WokOk (s.unW t) lost) ∨ ((s.unE t == 0) = true ∧ (s.cnt == 1) = false ∧ DI (s.unS t) left lost ∧ WokOk (s.unW t) lost) ∨
      ((s.unE t == 0) = true ∧ (s.cnt == 1) = true ∧ left = false ∧ DI (s.unS t) left lost ∧ WokOk (s.unW t) lost) ∨
      ((s.unE t == 0) = true ∧ (s.cnt == 1) = true ∧ left = true ∧ DI (s.unS t) left true ∧ WokOk (s.unW t) true) := by
  have hok := h.ok.un hL t
  by_cases h1 : thB t = true ∧ s.own = t
  · have ht := thB_iff.1 h1.1
    have hn : s.own ≠ -1 := by unfold okT at ht; omega
    have h2 : s.st ≠ 2 := fun e => hn (h.ok.lost e).1
    have hlf : lost = false := by rw [h.hlost]; exact decide_eq_false h2
    have hE : s.unE t = 0 := by unfold MS.unE; rw [if_pos h1.1, if_pos h1.2]
    have hg := h.ok.cntG hn
    rw [hE]
    right
    by_cases h3 : 1 < s.cnt
    · left
      have hS : s.unS t = { s with cnt := s.cnt - 1 } := by unfold MS.unS; rw [if_pos h1, if_pos h3]
      have hW : s.unW t = [] := by unfold MS.unW; rw [if_pos h1, if_pos h3]
      rw [hS] at hok
      rw [hS, hW]
      exact ⟨rfl, by simp; omega, ⟨hok, h.rob, h.hleft, h.hlost⟩, by simp, by simp⟩
    · right
      have h4 : (s.cnt == 1) = true := by simp; omega
      by_cases h5 : s.st = 1
      · right
        have hS : s.unS t = { s with own := -1, cnt := 0, st := 2, L := [] } := by unfold MS.unS; rw [if_pos h1, if_neg h3, if_pos h5]
        have hW : s.unW t = (ordT s.L).map (fun x => (x, 131)) := by unfold MS.unW; rw [if_pos h1, if_neg h3, if_pos h5]
        rw [hS] at hok
        rw [hS, hW]
        refine ⟨rfl, h4, by rw [h.hleft]; simp [h5], ⟨hok, h.rob, by rw [h.hleft]; simp [h5], by simp⟩, ?_, ?_⟩
        · rw [List.length_map]; unfold ordT; rw [List.length_map, (ordL_perm hL).length_eq]; exact h16
        · intro x hx
          obtain ⟨y, _, rfl⟩ := List.mem_map.1 hx
          exact ⟨by simp, by simp⟩
      · left
        have hS : s.unS t = s.nextS := by unfold MS.unS; rw [if_pos h1, if_neg h3, if_neg h5]
        have hW : s.unW t = s.nextW := by unfold MS.unW; rw [if_pos h1, if_neg h3, if_neg h5]
        rw [hS] at hok
        rw [hS, hW]
        refine ⟨rfl, h4, by rw [h.hleft]; simp [h5, h2], ⟨hok, by rw [(nextS_st s).2]; exact h.rob, by rw [(nextS_st s).1]; exact h.hleft, by rw [(nextS_st s).1]; exact h.hlost⟩, ?_⟩
        unfold MS.nextW WokOk
        split
        · exact ⟨by simp, by simp⟩
        · refine ⟨by simp, ?_⟩
          intro x hx
          simp only [List.mem_singleton] at hx
          subst hx
          unfold MS.told
          rw [if_neg h5, hlf]
          exact ⟨rfl, rfl⟩
  · left
    have hS : s.unS t = s := by unfold MS.unS; rw [if_neg h1]
    have hW : s.unW t = [] := by unfold MS.unW; rw [if_neg h1]
    rw [hS, hW]
    refine ⟨?_, h, by simp, by simp⟩
    unfold MS.unE
    by_cases h2 : thB t = true
    · rw [if_pos h2, if_neg (fun e => h1 ⟨h2, e⟩)]; rfl
    · rw [if_neg h2]; rfl

theorem DI.cs {s : MS} {left lost : Bool} (h : DI s left lost) (t : Int) :
    (s.csB t = true ∧ left = true ∧ lost = false ∧ decide (0 ≤ s.own) = true ∧ (t == s.own) = true ∧ DI (s.csS t) false lost) ∨
    (s.csB t = false ∧ DI (s.csS t) left lost ∧ (left = false ∨ (left = true ∧ lost = true) ∨ (left = true ∧ lost = false ∧ decide (0 ≤ s.own) = false) ∨ (left = true ∧ lost = false ∧ decide (0 ≤ s.own) = true ∧ (t == s.own) = false))) := by
  have hok := h.ok.cs t
  cases hB : s.csB t with
  | true =>
    left
    have hS : s.csS t = { s with st := 0 } := by unfold MS.csS; rw [if_pos hB]
    rw [hS] at hok ⊢
    unfold MS.csB at hB
    simp only [Bool.and_eq_true, decide_eq_true_eq] at hB
    obtain ⟨⟨⟨h1, h2⟩, h3⟩, h4⟩ := hB
    have ht := (thB_iff.1 h1).1
    have hlf : lost = false := by rw [h.hlost]; simp [h3]
    exact ⟨rfl, by rw [h.hleft]; simp [h3], hlf, by simp; omega, by simp [h4], ⟨hok, h.rob, by simp, by rw [hlf]; simp⟩⟩
  | false =>
    right
    have hS : s.csS t = s := by unfold MS.csS; rw [hB]; rfl
    rw [hS]
    refine ⟨rfl, h, ?_⟩
    by_cases h1 : s.st = 1
    · right
      have hl : left = true := by rw [h.hleft]; simp [h1]
      have hlf : lost = false := by rw [h.hlost]; simp [h1]
      right
      by_cases ho : 0 ≤ s.own
      · right
        refine ⟨hl, hlf, decide_eq_true ho, ?_⟩
        have hot : okT s.own := h.ok.own.resolve_left (by omega)
        cases hq : (t == s.own) with
        | false => rfl
        | true =>
          exfalso
          have hq' : t = s.own := by simpa using hq
          unfold MS.csB at hB
          rw [hq', thB_iff.2 hot, h.rob, decide_eq_true h1] at hB
          simp at hB
      · left
        exact ⟨hl, hlf, decide_eq_false ho⟩
    · by_cases h2 : s.st = 2
      · right; left
        exact ⟨by rw [h.hleft]; simp [h2], by rw [h.hlost]; simp [h2]⟩
      · left
        rw [h.hleft]; simp [h1, h2]

theorem DI.en {s : MS} {left lost : Bool} (h : DI s left lost) (hL : ListOk s.L) (t : Int) :
    (((decide (0 ≤ s.own) = false) ∨ (decide (0 ≤ s.own) = true ∧ (t == s.own) = false)) ∧ DI (s.enS t) left lost ∧ s.enW t = []) ∨
    (decide (0 ≤ s.own) = true ∧ (t == s.own) = true ∧ DI (s.enS t) true lost ∧ (s.enW t = [] ∨ ∃ x, s.enW t = [(x, 130)])) := by
  have hok := h.ok.en hL t
  by_cases h1 : thB t = true ∧ s.own = t
  · right
    have ht := thB_iff.1 h1.1
    have hn : s.own ≠ -1 := by unfold okT at ht; omega
    have h2 : s.st ≠ 2 := fun e => hn (h.ok.lost e).1
    have hlf : lost = false := by rw [h.hlost]; exact decide_eq_false h2
    have hS : s.enS t = ({ s with st := 1 } : MS).nextS := by unfold MS.enS; rw [if_pos h1, if_pos h.rob]
    have hW : s.enW t = ({ s with st := 1 } : MS).nextW := by unfold MS.enW; rw [if_pos ⟨h1.1, h1.2, h.rob⟩]
    rw [hS] at hok
    rw [hS, hW]
    refine ⟨by simp; have := ht.1; omega, by simp [h1.2], ⟨hok, by rw [(nextS_st _).2]; exact h.rob, by rw [(nextS_st _).1]; rfl, by rw [(nextS_st _).1, hlf]; rfl⟩, ?_⟩
    unfold MS.nextW
    split
    · exact .inl rfl
    · exact .inr ⟨_, rfl⟩
  · left
    have hS : s.enS t = s := by unfold MS.enS; rw [if_neg h1]
    have hW : s.enW t = [] := by unfold MS.enW; rw [if_neg (fun e => h1 ⟨e.1, e.2.1⟩)]
    rw [hS, hW]
    refine ⟨?_, h, rfl⟩
    by_cases ho : 0 ≤ s.own
    · right
      have hot : okT s.own := h.ok.own.resolve_left (by omega)
      refine ⟨decide_eq_true ho, ?_⟩
      simp
      intro e
      exact h1 ⟨by rw [e]; exact thB_iff.2 hot, e.symm⟩
    · exact .inl (decide_eq_false ho)

theorem DI.lv {s : MS} {left lost : Bool} (h : DI s left lost) (t : Int) : DI (s.lvS t) left lost := ⟨h.ok.lv t, h.rob, h.hleft, h.hlost⟩

end Go.Proofs.Ytagnobmdcchcaaa
