
/- The order of a waiting list, plain: there is one sorted permutation. -/
import Derived.Test.YtiiafhlckmkcnaaWf
namespace Go.Proofs.Ytiiafhlckmkcnaa
open Go.RowKit Go.Sort

theorem cfL_lt (p1 c1 p2 c2 : Int) : cfL p1 c1 p2 c2 < 0 ↔ (p2 < p1 ∨ (p1 = p2 ∧ c1 < c2)) := by
  unfold cfL orI Lib.compareInt
  rcases Int.lt_trichotomy p2 p1 with h | h | h
  · simp [h]
  · subst h
    rcases Int.lt_trichotomy c1 c2 with h | h | h
    · simp [h]
    · simp [h]
    · have h1 : ¬ c1 < c2 := by omega
      simp [h, h1]
  · have h1 : ¬ p2 < p1 := by omega
    have h2 : ¬ p1 = p2 := by omega
    simp [h, h1, h2]
theorem cmp_lt (c1 c2 : Int) : Lib.compareInt c1 c2 < 0 ↔ c1 < c2 := by
  unfold Lib.compareInt
  rcases Int.lt_trichotomy c1 c2 with h | h | h
  · simp [h]
  · simp [h]
  · have h1 : ¬ c1 < c2 := by omega
    simp [h, h1]

theorem swo_list (L1 : List W1) : SWO (ltOf (cfT cfL L1)) := by
  have h : ∀ x y, ltOf (cfT cfL L1) x y = decide ((rowOf L1 y).1 < (rowOf L1 x).1 ∨ ((rowOf L1 x).1 = (rowOf L1 y).1 ∧ (rowOf L1 x).2 < (rowOf L1 y).2)) := fun x y => by
    unfold ltOf cfT
    exact decide_eq_decide.2 (cfL_lt ..)
  refine ⟨fun x => ?_, fun x y z h1 h2 => ?_, fun x y z h1 h2 => ?_⟩
  · rw [h]; simp
  · rw [h] at *; simp at *; omega
  · rw [h] at *; simp at *; omega
theorem swo_same (L1 : List W1) : SWO (ltOf (cfT (fun _ c1 _ c2 => Lib.compareInt c1 c2) L1)) := by
  have h : ∀ x y, ltOf (cfT (fun _ c1 _ c2 => Lib.compareInt c1 c2) L1) x y = decide ((rowOf L1 x).2 < (rowOf L1 y).2) := fun x y => by
    unfold ltOf cfT
    exact decide_eq_decide.2 (cmp_lt ..)
  refine ⟨fun x => ?_, fun x y z h1 h2 => ?_, fun x y z h1 h2 => ?_⟩
  · rw [h]; simp
  · rw [h] at *; simp at *; omega
  · rw [h] at *; simp at *; omega

theorem rowOf_mem {L1 : List W1} (hn : (L1.map W1.t).Nodup) {x : W1} (hx : x ∈ L1) : rowOf L1 x.t = (x.p, x.c) := by
  induction L1 with
  | nil => cases hx
  | cons y L1 ih =>
    have hn' := List.nodup_cons.1 hn
    unfold rowOf
    rcases List.mem_cons.1 hx with rfl | hx
    · simp
    · have : ¬ x.t = y.t := fun e => hn'.1 (List.mem_map.2 ⟨x, hx, e⟩)
      rw [if_neg this]
      exact ih hn'.2 hx

def ord1 (L1 : List W1) : List W1 := (List.range 31).flatMap fun (i : Nat) => L1.filter fun x => x.p == 31 - (i : Int)

theorem ord1_pair (L1 : List W1) : (ord1 L1).map W1.pair = ordL (L1.map W1.pair) := by
  unfold ord1 ordL
  rw [List.map_flatMap]
  congr 1
  funext i
  rw [List.filter_map]
  rfl

theorem flat_perm {α : Type} (f : α → Int) : ∀ (n : Nat) (l : List α), (∀ x ∈ l, 31 - (n : Int) < f x ∧ f x ≤ 31) → ((List.range n).flatMap fun (i : Nat) => l.filter fun x => f x == 31 - (i : Int)).Perm l
  | 0, l, h => by
    have : l = [] := by
      cases l with
      | nil => rfl
      | cons x l => have := h x (by simp); omega
    subst this
    simp
  | n + 1, l, h => by
    rw [List.range_succ, List.flatMap_append]
    have h1 := flat_perm f n (l.filter fun x => decide (31 - (n : Int) < f x)) (fun x hx => by
      have h2 := List.mem_filter.1 hx
      exact ⟨by simpa using h2.2, (h x h2.1).2⟩)
    have e1 : ((List.range n).flatMap fun (i : Nat) => (l.filter fun x => decide (31 - (n : Int) < f x)).filter fun x => f x == 31 - (i : Int)) = ((List.range n).flatMap fun (i : Nat) => l.filter fun x => f x == 31 - (i : Int)) := by
      rw [List.flatMap_def, List.flatMap_def]
      congr 1
      apply List.map_congr_left
      intro i hi
      rw [List.filter_filter]
      apply List.filter_congr
      intro x _
      have hi' := List.mem_range.1 hi
      by_cases hc : f x = 31 - (i : Int)
      · simp [hc]; omega
      · simp [hc]
    rw [e1] at h1
    have e2 : (l.filter fun x => f x == 31 - (n : Int)) = l.filter fun x => !(decide (31 - (n : Int) < f x)) := by
      apply List.filter_congr
      intro x hx
      have := h x hx
      by_cases hc : f x = 31 - (n : Int)
      · simp [hc]
      · have : 31 - (n : Int) < f x := by omega
        simp [hc, this]
    simp only [List.flatMap_cons, List.flatMap_nil, List.append_nil]
    rw [e2]
    exact (h1.append_right _).trans (List.filter_append_perm _ _)

theorem ord1_perm {L1 : List W1} (h : ∀ x ∈ L1, okP x.p) : (ord1 L1).Perm L1 :=
  flat_perm W1.p 31 L1 (fun x hx => by have := h x hx; unfold okP at this; omega)

theorem flat_pairwise (L1 : List W1) (hc : L1.Pairwise (fun x y => x.c < y.c)) : ∀ n : Nat, ((List.range n).flatMap fun (i : Nat) => L1.filter fun x => x.p == 31 - (i : Int)).Pairwise (fun x y => y.p < x.p ∨ (x.p = y.p ∧ x.c < y.c))
  | 0 => by simp
  | n + 1 => by
    rw [List.range_succ, List.flatMap_append]
    simp only [List.flatMap_cons, List.flatMap_nil, List.append_nil]
    refine List.pairwise_append.2 ⟨flat_pairwise L1 hc n, ?_, ?_⟩
    · refine List.Pairwise.imp_of_mem (R := fun x y => x.c < y.c) ?_ (List.Pairwise.filter _ hc)
      intro x y hx hy hxy
      have h1 := (List.mem_filter.1 hx).2
      have h2 := (List.mem_filter.1 hy).2
      simp at h1 h2
      right
      exact ⟨by omega, hxy⟩
    · intro x hx y hy
      obtain ⟨i, hi, hx⟩ := List.mem_flatMap.1 hx
      have h1 := (List.mem_filter.1 hx).2
      have h2 := (List.mem_filter.1 hy).2
      have hi' := List.mem_range.1 hi
      simp at h1 h2
      left
      omega

theorem came_inj : ∀ {L1 : List W1}, L1.Pairwise (fun x y => x.c < y.c) → ∀ {x y}, x ∈ L1 → y ∈ L1 → x.c = y.c → x = y
  | [], _, _, _, hx, _, _ => by cases hx
  | z :: L1, h, x, y, hx, hy, e => by
    have h' := List.pairwise_cons.1 h
    rcases List.mem_cons.1 hx with rfl | hx1
    · rcases List.mem_cons.1 hy with rfl | hy1
      · rfl
      · have := h'.1 y hy1; omega
    · rcases List.mem_cons.1 hy with rfl | hy1
      · have := h'.1 x hx1; omega
      · exact came_inj h'.2 hx1 hy1 e

theorem sorted_is {w : World} {ab mb : Nat} {n : Int} {L1 : List W1} (h : WIn w ab mb n L1) {ts : List Int} (hp : ts.Perm (L1.map W1.t)) (hs : ts.Pairwise (fun x y => ¬ cfT cfL L1 y x < 0)) : ts = ordT (L1.map W1.pair) := by
  have hn := h.nodup
  have h1 := ord1_perm (fun x hx => (h.ok x hx).2.1)
  have h2 := flat_pairwise L1 h.came 31
  have e : ordT (L1.map W1.pair) = (ord1 L1).map W1.t := by
    unfold ordT
    rw [← ord1_pair, List.map_map]
    rfl
  rw [e]
  have hmem : ∀ t ∈ L1.map W1.t, ∃ x ∈ L1, x.t = t ∧ rowOf L1 t = (x.p, x.c) := fun t ht => by
    obtain ⟨x, hx, rfl⟩ := List.mem_map.1 ht
    exact ⟨x, hx, rfl, rowOf_mem hn hx⟩
  refine List.Perm.eq_of_pairwise (le := fun x y => ¬ cfT cfL L1 y x < 0) ?_ hs ?_ (hp.trans (h1.map W1.t).symm)
  · intro a b ha hb hab hba
    obtain ⟨x, hx, rfl, hxr⟩ := hmem a (hp.mem_iff.1 ha)
    obtain ⟨y, hy, rfl, hyr⟩ := hmem b ((h1.map W1.t).mem_iff.1 hb)
    unfold cfT at hab hba
    rw [cfL_lt, hxr, hyr] at hab hba
    have hc : x.c = y.c := by simp at hab hba; omega
    rw [came_inj h.came hx hy hc]
  · rw [List.pairwise_map]
    refine List.Pairwise.imp_of_mem ?_ h2
    intro x y hx hy hxy
    unfold cfT
    rw [cfL_lt, rowOf_mem hn (h1.mem_iff.1 hx), rowOf_mem hn (h1.mem_iff.1 hy)]
    simp
    omega

end Go.Proofs.Ytiiafhlckmkcnaa
