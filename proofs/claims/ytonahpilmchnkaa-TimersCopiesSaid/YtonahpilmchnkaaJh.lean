
/- Timers: what always holds, behind each step but Due. -/
import Derived.Test.YtonahpilmchnkaaJg
namespace Go.Proofs.Ytonahpilmchnkaa

theorem get_set {α : Type} {l : List α} {i j : Nat} {x y : α} (h : (l.set i x)[j]? = some y) : (j = i ∧ y = x) ∨ (j ≠ i ∧ l[j]? = some y) := by
  by_cases e : i = j
  · subst e
    have hi : i < l.length := by
      have := (List.getElem?_eq_some_iff.1 h).1
      rwa [List.length_set] at this
    rw [List.getElem?_set_self hi] at h
    exact .inl ⟨rfl, (Option.some.inj h).symm⟩
  · rw [List.getElem?_set_ne e] at h
    exact .inr ⟨fun h2 => e h2.symm, h⟩
theorem TInv.new (n : Nat) (h1 : 1 ≤ n) (h8 : n ≤ 8) : TInv ⟨n, List.replicate 8 TE.zero, fun _ => hs0⟩ := by
  have hz : ∀ (i : Nat) e, (List.replicate 8 TE.zero)[i]? = some e → e = TE.zero := fun i e he => List.eq_of_mem_replicate (List.mem_of_getElem? he)
  refine ⟨h1, h8, List.length_replicate, fun i e he ha => ?_, fun i e he _ => ?_, fun i e he => ?_, fun c _ => HInv.new, fun c _ x hx => ?_, fun i e he ha => ?_⟩
  · rw [hz i e he] at ha; cases ha
  · rw [hz i e he]; exact ⟨rfl, rfl, rfl⟩
  · rw [hz i e he]; exact ⟨by decide, by decide, by decide, by decide⟩
  · cases hx
  · rw [hz i e he] at ha; cases ha
/-- It rests. -/
theorem TInv.rests {s : TS} (h : TInv s) (i : Nat) : TInv (s.rests i) := by
  unfold TS.rests
  split
  · exact h
  · rename_i e he
    refine ⟨h.n1, h.n8, by rw [List.length_set]; exact h.len, fun j x hj ha => ?_, fun j x hj ha => ?_, fun j x hj => ?_, fun c hc => ?_, fun c hc x hx => ?_, fun j x hj ha => ?_⟩
    · rcases get_set hj with ⟨rfl, rfl⟩ | ⟨_, h2⟩
      · cases ha
      · exact h.on j x h2 ha
    · rcases get_set hj with ⟨rfl, rfl⟩ | ⟨_, h2⟩
      · exact ⟨rfl, rfl, rfl⟩
      · exact h.off j x h2 ha
    · rcases get_set hj with ⟨rfl, rfl⟩ | ⟨_, h2⟩
      · exact h.num j e he
      · exact h.num j x h2
    · dsimp only
      split
      · by_cases hk : c = e.clock
        · subst hk
          rw [updW_same]
          exact (h.wh _ hc).del i
        · rw [updW_other hk]
          exact h.wh c hc
      · exact h.wh c hc
    · have key : x ∈ (s.W c).M ∧ x.1 ≠ (i : Int) := by
        dsimp only at hx
        split at hx
        · rename_i ha
          by_cases hk : c = e.clock
          · subst hk
            rw [updW_same] at hx
            obtain ⟨h1, h2⟩ := List.mem_filter.1 hx
            exact ⟨h1, by simpa using h2⟩
          · rw [updW_other hk] at hx
            refine ⟨hx, fun e1 => ?_⟩
            obtain ⟨j, y, g1, g2, g3, g4, _⟩ := h.has c hc x hx
            have : j = i := by omega
            subst this
            rw [he] at g2
            cases g2
            exact hk g4.symm
        · rename_i ha
          refine ⟨hx, fun e1 => ?_⟩
          obtain ⟨j, y, g1, g2, g3, _⟩ := h.has c hc x hx
          have : j = i := by omega
          subst this
          rw [he] at g2
          cases g2
          exact ha g3
      obtain ⟨j, y, g1, g2, g3⟩ := h.has c hc x key.1
      refine ⟨j, y, g1, ?_, g3⟩
      rw [List.getElem?_set_ne (fun e1 => key.2 (by omega))]
      exact g2
    · rcases get_set hj with ⟨rfl, rfl⟩ | ⟨hne, h2⟩
      · cases ha
      · obtain ⟨y, hy, hy1⟩ := h.arm j x h2 ha
        refine ⟨y, ?_, hy1⟩
        dsimp only
        split
        · by_cases hk : x.clock = e.clock
          · rw [hk, updW_same]
            rw [hk] at hy
            exact List.mem_filter.2 ⟨hy, by simp; omega⟩
          · rw [updW_other hk]
            exact hy
        · exact hy
/-- It is armed; it rested. -/
theorem TInv.arms {s : TS} (h : TInv s) {i : Nat} {e : TE} (he : s.L[i]? = some e) (ho : e.armed = false) (hi : i < s.n) {c t v : Int} (hc : isC c) (ht : okAt t) (hv : okAt v) : TInv (s.arms i c t v) := by
  have hset : (s.W c).setS i t = ⟨delH (s.W c).M i ++ [((i : Int), t, (s.W c).c + 1)], (s.W c).c + 1⟩ := if_pos ⟨⟨by omega, by have := h.n8; omega⟩, ht⟩
  have hfree : ∀ k, isC k → ∀ x ∈ (s.W k).M, x.1 ≠ (i : Int) := fun k hk x hx e1 => by
    obtain ⟨j, y, g1, g2, g3, _⟩ := h.has k hk x hx
    have : j = i := by omega
    subst this
    rw [he] at g2
    cases g2
    rw [ho] at g3
    cases g3
  unfold TS.arms
  rw [he]
  refine ⟨h.n1, h.n8, by rw [List.length_set]; exact h.len, fun j x hj ha => ?_, fun j x hj ha => ?_, fun j x hj => ?_, fun k hk => ?_, fun k hk x hx => ?_, fun j x hj ha => ?_⟩
  · rcases get_set hj with ⟨rfl, rfl⟩ | ⟨_, h2⟩
    · exact ⟨hi, hc, ht, hv⟩
    · exact h.on j x h2 ha
  · rcases get_set hj with ⟨rfl, rfl⟩ | ⟨_, h2⟩
    · cases ha
    · exact h.off j x h2 ha
  · rcases get_set hj with ⟨rfl, rfl⟩ | ⟨_, h2⟩
    · exact h.num j e he
    · exact h.num j x h2
  · dsimp only
    by_cases e1 : k = c
    · subst e1
      rw [updW_same]
      exact (h.wh _ hk).setS i t
    · rw [updW_other e1]
      exact h.wh k hk
  · dsimp only at hx
    by_cases e1 : k = c
    · subst e1
      rw [updW_same, hset] at hx
      rcases List.mem_append.1 hx with hx | hx
      · obtain ⟨h1, h2⟩ := List.mem_filter.1 hx
        obtain ⟨j, y, g1, g2, g3⟩ := h.has k hk x h1
        refine ⟨j, y, g1, ?_, g3⟩
        rw [List.getElem?_set_ne (fun e2 => hfree k hk x h1 (by omega))]
        exact g2
      · simp at hx
        subst hx
        exact ⟨i, e.arm k t v, rfl, List.getElem?_set_self (List.getElem?_eq_some_iff.1 he).1, rfl, rfl, rfl⟩
    · rw [updW_other e1] at hx
      obtain ⟨j, y, g1, g2, g3⟩ := h.has k hk x hx
      refine ⟨j, y, g1, ?_, g3⟩
      rw [List.getElem?_set_ne (fun e2 => hfree k hk x hx (by omega))]
      exact g2
  · dsimp only
    rcases get_set hj with ⟨rfl, rfl⟩ | ⟨hne, h2⟩
    · refine ⟨((j : Int), t, (s.W c).c + 1), ?_, rfl⟩
      show _ ∈ (updW s.W c _ c).M
      rw [updW_same, hset]
      simp
    · obtain ⟨y, hy, hy1⟩ := h.arm j x h2 ha
      refine ⟨y, ?_, hy1⟩
      by_cases hk : x.clock = c
      · rw [hk, updW_same, hset]
        rw [hk] at hy
        exact List.mem_append_left _ (List.mem_filter.2 ⟨hy, by simp; omega⟩)
      · rw [updW_other hk]
        exact hy

end Go.Proofs.Ytonahpilmchnkaa
