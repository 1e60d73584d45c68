
/- What a mutex always is. No program in sight. -/
import Derived.Test.YtagnobmdcchcaaaMspec
import Derived.Test.YtagnobmdcchcaaaOrd
namespace Go.Proofs.Ytagnobmdcchcaaa

structure MOk (s : MS) : Prop where
  cnt0 : 0 ≤ s.cnt
  cntM : s.cnt ≤ 32767
  own : s.own = -1 ∨ okT s.own
  cntE : s.own = -1 → s.cnt = 0
  cntG : s.own ≠ -1 → 1 ≤ s.cnt
  st : s.st = 0 ∨ s.st = 1 ∨ s.st = 2 ∨ s.st = 3
  lost : s.st = 2 → s.own = -1 ∧ s.L = []
  gone : s.st = 3 → s.own = -1
  free : s.own = -1 → s.st = 3 ∨ s.L = []
  rob : s.st ≠ 0 → s.rob = decide (s.st ≠ 3)

theorem putL_len {L : WL} {t p : Int} : putL L t p = L ∨ (askR L t p false = 0 ∧ putL L t p = L ++ [(t, p)]) := by
  unfold putL; split
  · right; exact ⟨by assumption, rfl⟩
  · left; rfl
theorem lvL_nil {L : WL} {t : Int} (h : L = []) : lvL L t = [] := by subst h; unfold lvL; split <;> rfl
theorem chgL_nil {L : WL} {t p : Int} (h : L = []) : chgL L t p = [] := by subst h; unfold chgL; split <;> rfl

theorem MOk.new (k p c : Int) (rob : Bool) : MOk (mnew k p c rob) := by
  constructor <;> simp [mnew]

theorem may_ok {s : MS} {t b : Int} (h : s.may t b = true) : okT t ∧ okP b ∧ hasR s.L t = false ∧ ¬ (s.p = 2 ∧ s.c < b) := by
  unfold MS.may at h
  simp only [Bool.and_eq_true, Bool.not_eq_true'] at h
  obtain ⟨⟨⟨h1, h2⟩, h3⟩, h4⟩ := h
  refine ⟨thB_iff.1 h1, prB_iff.1 h2, h3, ?_⟩
  rintro ⟨h5, h6⟩
  simp [h5, h6] at h4
theorem free_ok {s : MS} (h : s.free = true) : s.own = -1 ∧ s.st ≠ 3 := by
  unfold MS.free at h
  simpa using h
theorem not_free {s : MS} (h : s.free = false) : s.own ≠ -1 ∨ s.st = 3 := by
  unfold MS.free at h
  by_cases h1 : s.own = -1
  · right; simpa [h1] using h
  · exact .inl h1

theorem MOk.took {s : MS} (h : MOk s) {t : Int} (ht : okT t) (h2 : s.st ≠ 2) (h3 : s.st ≠ 3) : MOk (s.took t) := by
  have := ht.1
  refine ⟨by simp [MS.took], by simp [MS.took], .inr ht, ?_, by simp [MS.took], h.st, fun e => absurd e h2, fun e => absurd e h3, ?_, h.rob⟩
  · intro e; simp [MS.took] at e; omega
  · intro e; simp [MS.took] at e; omega
theorem MOk.ask {s : MS} (h : MOk s) (t b : Int) : MOk (s.askS t b) := by
  unfold MS.askS
  split
  · rename_i hc
    exact h.took (may_ok hc.1).1 hc.2.1 (free_ok hc.2.2).2
  · exact h
theorem MOk.again {s : MS} (h : MOk s) (h1 : ¬ 32767 ≤ s.cnt) (h2 : s.own ≠ -1) : MOk { s with cnt := s.cnt + 1 } := by
  have := h.cnt0
  exact ⟨by show 0 ≤ s.cnt + 1; omega, by show s.cnt + 1 ≤ 32767; omega, h.own, fun e => absurd e h2, fun _ => by show 1 ≤ s.cnt + 1; omega, h.st, h.lost, h.gone, h.free, h.rob⟩
theorem MOk.lock {s : MS} (h : MOk s) (t q b : Int) : MOk (s.lockS t q b) := by
  unfold MS.lockS
  by_cases h0 : prB q = true
  · rw [if_pos h0]
    by_cases h1 : s.askE t b = 16
    · rw [if_pos h1]
      have hw := MS.askE_wait h1
      have ht := (may_ok hw.1).1
      split
      · exact h
      · split
        · rename_i h5
          split
          · exact h
          · rename_i h6
            exact h.again h6 (by unfold okT at ht; omega)
        · have hnf := not_free hw.2.2
          exact ⟨h.cnt0, h.cntM, h.own, h.cntE, h.cntG, h.st, fun e => absurd e hw.2.1, h.gone, fun e => by
            rcases hnf with h9 | h9
            · exact absurd e h9
            · exact .inl h9, h.rob⟩
    · rw [if_neg h1]; exact h.ask t b
  · rw [if_neg h0]; exact h
theorem MOk.try_ {s : MS} (h : MOk s) (t b : Int) : MOk (s.tryS t b) := by
  unfold MS.tryS
  split
  · rename_i h1
    have hw := MS.askE_wait h1.1
    have ht := (may_ok hw.1).1
    split
    · exact h
    · rename_i h6
      exact h.again h6 (by unfold okT at ht; omega)
  · exact h.ask t b
theorem MOk.next {s : MS} (h : MOk s) (hL : ListOk s.L) (h2 : s.st ≠ 2) (h3 : s.st ≠ 3) : MOk s.nextS := by
  unfold MS.nextS
  cases ho : ordL s.L with
  | nil =>
    have hl := (ord_nil_iff hL).1 ho
    refine ⟨by simp, by simp, .inl rfl, by simp, by simp, h.st, fun e => absurd e h2, fun e => absurd e h3, fun _ => .inr hl, h.rob⟩
  | cons x r =>
    have hx : x ∈ s.L := (ordL_perm hL).mem_iff.1 (by rw [ho]; simp)
    have ht := (hL.ok x hx).1
    have := ht.1
    refine ⟨by simp, by simp, .inr ht, ?_, by simp, h.st, fun e => absurd e h2, fun e => absurd e h3, ?_, h.rob⟩
    · intro e; simp at e; omega
    · intro e; simp at e; omega
theorem MOk.un {s : MS} (h : MOk s) (hL : ListOk s.L) (t : Int) : MOk (s.unS t) := by
  unfold MS.unS
  split
  · rename_i h1
    have ht := thB_iff.1 h1.1
    have hn : s.own ≠ -1 := by unfold okT at ht; omega
    have h2 : s.st ≠ 2 := fun e => hn (h.lost e).1
    have h3 : s.st ≠ 3 := fun e => hn (h.gone e)
    split
    · exact ⟨by show 0 ≤ s.cnt - 1; omega, by have := h.cntM; show s.cnt - 1 ≤ 32767; omega, h.own, fun e => absurd e hn, fun _ => by show 1 ≤ s.cnt - 1; omega, h.st, h.lost, h.gone, h.free, h.rob⟩
    · split
      · rename_i h5
        exact ⟨by simp, by simp, .inl rfl, by simp, by simp, .inr (.inr (.inl rfl)), fun _ => ⟨rfl, rfl⟩, by simp, fun _ => .inr rfl, fun _ => by
          have := h.rob (by omega)
          simp [this, h5]⟩
      · exact h.next hL h2 h3
  · exact h
theorem MOk.cs {s : MS} (h : MOk s) (t : Int) : MOk (s.csS t) := by
  unfold MS.csS
  split
  · rename_i h1
    unfold MS.csB at h1
    simp only [Bool.and_eq_true, decide_eq_true_eq] at h1
    obtain ⟨⟨⟨h1, h2⟩, h3⟩, h4⟩ := h1
    have ht := thB_iff.1 h1
    have hn : s.own ≠ -1 := by unfold okT at ht; omega
    exact ⟨h.cnt0, h.cntM, h.own, h.cntE, h.cntG, .inl rfl, by simp, by simp, fun e => absurd e hn, by simp⟩
  · exact h
theorem MOk.en {s : MS} (h : MOk s) (hL : ListOk s.L) (t : Int) : MOk (s.enS t) := by
  unfold MS.enS
  split
  · rename_i h1
    have ht := thB_iff.1 h1.1
    have hn : s.own ≠ -1 := by unfold okT at ht; omega
    have h2 : s.st ≠ 2 := fun e => hn (h.lost e).1
    have h3 : s.st ≠ 3 := fun e => hn (h.gone e)
    split
    · rename_i hr
      have h' : MOk { s with st := 1 } := ⟨h.cnt0, h.cntM, h.own, h.cntE, h.cntG, .inr (.inl rfl), by simp, by simp, fun e => absurd e hn, fun _ => by simp [hr]⟩
      exact h'.next hL (by simp) (by simp)
    · rename_i hr
      exact ⟨by simp, by simp, .inl rfl, by simp, by simp, .inr (.inr (.inr rfl)), by simp, fun _ => rfl, fun _ => .inl rfl, fun _ => by simpa using hr⟩
  · exact h
theorem MOk.list {s : MS} (h : MOk s) {L' : WL} (hn : s.L = [] → L' = []) : MOk { s with L := L' } :=
  ⟨h.cnt0, h.cntM, h.own, h.cntE, h.cntG, h.st, fun e => ⟨(h.lost e).1, hn (h.lost e).2⟩, h.gone, fun e => (h.free e).imp_right hn, h.rob⟩
theorem MOk.lv {s : MS} (h : MOk s) (t : Int) : MOk (s.lvS t) := h.list lvL_nil
theorem MOk.ch {s : MS} (h : MOk s) (t q : Int) : MOk (s.chS t q) := h.list chgL_nil
theorem MOk.ce {s : MS} (h : MOk s) (t q : Int) : MOk (s.ceS t q) := by
  unfold MS.ceS
  split
  · exact ⟨h.cnt0, h.cntM, h.own, h.cntE, h.cntG, h.st, h.lost, h.gone, h.free, h.rob⟩
  · exact h

end Go.Proofs.Ytagnobmdcchcaaa
