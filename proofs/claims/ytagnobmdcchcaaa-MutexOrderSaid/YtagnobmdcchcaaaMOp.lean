
/- Those who wait get it by falling priorities. No program in sight. -/
import Derived.Test.YtagnobmdcchcaaaMFp
namespace Go.Proofs.Ytagnobmdcchcaaa

/-- Those of the first t who wait. -/
def Lp (ts : List Int) : Nat → WL
  | 0 => []
  | t + 1 => if prB (ts.getD t 0) = true then Lp ts t ++ [((t : Int), ts.getD t 0)] else Lp ts t
theorem Lp_mem {ts : List Int} {t : Nat} : ∀ x ∈ Lp ts t, ∃ j : Nat, j < t ∧ x.1 = j ∧ x.2 = ts.getD j 0 ∧ prB (ts.getD j 0) = true := by
  induction t with
  | zero => intro x hx; cases hx
  | succ t ih =>
    intro x hx
    rw [Lp] at hx
    split at hx
    · rename_i hp
      rcases List.mem_append.1 hx with hx | hx
      · obtain ⟨j, h1, h2⟩ := ih x hx
        exact ⟨j, by omega, h2⟩
      · simp only [List.mem_singleton] at hx
        subst hx
        exact ⟨t, by omega, rfl, rfl, hp⟩
    · obtain ⟨j, h1, h2⟩ := ih x hx
      exact ⟨j, by omega, h2⟩
theorem Lp_sorted (ts : List Int) (t : Nat) : (Lp ts t).Pairwise (fun x y => x.1 < y.1) := by
  induction t with
  | zero => exact .nil
  | succ t ih =>
    rw [Lp]
    split
    · rw [List.pairwise_append]
      refine ⟨ih, by simp, ?_⟩
      intro x hx y hy
      simp only [List.mem_singleton] at hy
      subst hy
      obtain ⟨j, h1, h2, _⟩ := Lp_mem x hx
      show x.1 < (t : Int)
      omega
    · exact ih
theorem Lp_has {ts : List Int} {t : Nat} (j : Nat) : hasR (Lp ts t) j = (decide (j < t) && prB (ts.getD j 0)) := by
  induction t with
  | zero => simp [Lp, hasR]
  | succ t ih =>
    have h1 : ∀ b : Bool, (hasR (Lp ts (t + 1)) j = b) ↔ ((if prB (ts.getD t 0) = true then (hasR (Lp ts t) j || decide (j = t)) else hasR (Lp ts t) j) = b) := by
      intro b
      rw [Lp]
      split
      · have : hasR (Lp ts t ++ [((t : Int), ts.getD t 0)]) j = (hasR (Lp ts t) j || decide (j = t)) := by
          unfold hasR
          rw [List.lookup_append]
          cases hl : (Lp ts t).lookup (j : Int) with
          | some y => simp
          | none =>
            by_cases hj : j = t
            · subst hj; simp
            · have : ((j : Int) == (t : Int)) = false := by simp; omega
              simp [List.lookup_cons, this, hj]
        rw [this]
      · rfl
    refine (h1 _).2 ?_
    rw [ih]
    by_cases hp : prB (ts.getD t 0) = true
    · rw [if_pos hp]
      by_cases hj : j = t
      · subst hj; rw [hp]; simp
      · by_cases h2 : j < t
        · have : j < t + 1 := by omega
          simp [h2, this, hj]
        · have : ¬ j < t + 1 := by omega
          simp [h2, this, hj]
    · rw [if_neg hp]
      by_cases hj : j = t
      · subst hj
        have hp' : prB (ts.getD j 0) = false := by simpa using hp
        rw [hp']; simp
      · by_cases h2 : j < t
        · have : j < t + 1 := by omega
          simp [h2, this]
        · have : ¬ j < t + 1 := by omega
          simp [h2, this]

/-- While they come. -/
def ost (k p c : Int) (rob : Bool) (own : Int) (L : WL) : MS := ⟨k, p, c, rob, own, 1, 0, L⟩
theorem ost_first (k p : Int) (rob : Bool) (c : Int) (hc : p = 2 → c = 31) : (mnew k p c rob).lockB 15 1 1 = true ∧ (mnew k p c rob).lockE 15 1 1 = 0 ∧ (mnew k p c rob).lockS 15 1 1 = ost k p c rob 15 [] := by
  have hm : (mnew k p c rob).may 15 1 = true := by
    unfold MS.may mnew
    by_cases hp : p = 2
    · simp [hp, hc hp, thB, prB, hasR]
    · simp [hp, thB, prB, hasR]
  have hf : (mnew k p c rob).free = true := rfl
  have hE : (mnew k p c rob).askE 15 1 = 0 := by unfold MS.askE; rw [if_pos hm, if_neg (by simp [mnew]), if_pos hf]; rfl
  have hS : (mnew k p c rob).askS 15 1 = ost k p c rob 15 [] := by unfold MS.askS; rw [if_pos ⟨hm, by simp [mnew], hf⟩]; rfl
  refine ⟨?_, ?_, ?_⟩
  · unfold MS.lockB; rw [hE]; rfl
  · unfold MS.lockE; rw [hE]; rfl
  · unfold MS.lockS; rw [hE, hS]; rfl
theorem ost_lock {k p c : Int} {rob : Bool} {L : WL} {t q : Int} (hc : p = 2 → c = 31) (ht : 0 ≤ t ∧ t < 15) (hn : hasR L t = false) (hq : prB q = true) :
    (ost k p c rob 15 L).lockB t q 1 = false ∧ (ost k p c rob 15 L).lockE t q 1 = 0 ∧ (ost k p c rob 15 L).lockS t q 1 = ost k p c rob 15 (L ++ [(t, q)]) := by
  have htb : thB t = true := thB_iff.2 ⟨ht.1, by omega⟩
  have hm : (ost k p c rob 15 L).may t 1 = true := by
    unfold MS.may ost
    by_cases hp : p = 2
    · simp [hp, hc hp, htb, prB, hn]
    · simp [hp, htb, prB, hn]
  have hf : (ost k p c rob 15 L).free = false := rfl
  have hE : (ost k p c rob 15 L).askE t 1 = 16 := by unfold MS.askE; rw [if_pos hm, if_neg (by simp [ost]), hf]; rfl
  have ho : ¬ (ost k p c rob 15 L).own = t := by show ¬ (15 : Int) = t; omega
  have ha : askR L t q false = 0 := by
    unfold askR
    have h6 := prB_iff.1 hq
    unfold okP at h6
    rw [if_neg (by omega)]
    unfold hasR at hn
    rw [hn]
    rfl
  refine ⟨?_, ?_, ?_⟩
  · unfold MS.lockB; rw [if_pos hq, if_pos hE]; apply decide_eq_false; rintro ⟨h, _⟩; exact ho h
  · unfold MS.lockE; rw [if_pos hq, if_pos hE, if_neg (fun h => ho h.1), if_neg (fun h => ho h.1)]
  · unfold MS.lockS; rw [if_pos hq, if_pos hE, if_neg (fun h => ho h.1), if_neg (fun h => ho h.1)]
    show ({ ost k p c rob 15 L with L := putL L t q } : MS) = _
    unfold putL; rw [if_pos ha]; rfl
theorem ost_no (s : MS) (t q : Int) (hq : prB q = false) : s.lockB t q 1 = false ∧ s.lockE t q 1 = 22 ∧ s.lockS t q 1 = s := by
  have hq' : ¬ prB q = true := by simp [hq]
  unfold MS.lockB MS.lockE MS.lockS
  rw [if_neg hq', if_neg hq', if_neg hq']
  exact ⟨rfl, rfl, rfl⟩
theorem ost_un {k p c : Int} {rob : Bool} {L : WL} {own : Int} (ho : okT own) : (ost k p c rob own L).unE own = 0 ∧ (ost k p c rob own L).unS own = (ost k p c rob own L).nextS ∧ (ost k p c rob own L).unW own = (ost k p c rob own L).nextW := by
  have ht := thB_iff.2 ho
  refine ⟨?_, ?_, ?_⟩
  · unfold MS.unE; rw [if_pos ht]; exact if_pos rfl
  · unfold MS.unS; rw [if_pos ⟨ht, rfl⟩, if_neg (by simp [ost]), if_neg (by simp [ost])]
  · unfold MS.unW; rw [if_pos ⟨ht, rfl⟩, if_neg (by simp [ost]), if_neg (by simp [ost])]

/-- The first one beside another. -/
theorem head_best {L : WL} (hL : ListOk L) (hs : L.Pairwise (fun x y => x.1 < y.1)) {x : Int × Int} {r : WL} (ho : ordL L = x :: r) : x ∈ L ∧ ∀ y ∈ L, decide (x.2 < y.2) = false ∧ ((y.2 == x.2) = false ∨ ((y.2 == x.2) = true ∧ decide (y.1 < x.1) = false)) := by
  have hp := ordL_perm hL
  have hS := ordL_sorted (fun z => z) hs
  rw [ho] at hp hS
  refine ⟨hp.mem_iff.1 (by simp), fun y hy => ?_⟩
  rcases List.mem_cons.1 (hp.mem_iff.2 hy) with rfl | hy
  · exact ⟨by simp, .inr ⟨by simp, by simp⟩⟩
  · rcases (List.pairwise_cons.1 hS).1 y hy with h | ⟨h1, h2⟩
    · exact ⟨by simp; omega, .inl (by simp; omega)⟩
    · exact ⟨by simp; omega, .inr ⟨by simp [h1], by simp at h2 ⊢; omega⟩⟩
theorem take_filter {L : WL} (hL : ListOk L) {x : Int × Int} {r : WL} (ho : ordL L = x :: r) : takeL L = L.filter (fun y => !(y.1 == x.1)) := by
  unfold takeL
  rw [ho]
  exact wdel_filter hL.nodup
theorem take_has {L : WL} (hL : ListOk L) {x : Int × Int} {r : WL} (ho : ordL L = x :: r) (j : Int) : hasR (takeL L) j = (hasR L j && !(j == x.1)) := by
  rw [take_filter hL ho]
  cases h : (hasR L j && !(j == x.1)) with
  | true =>
    simp only [Bool.and_eq_true, Bool.not_eq_true'] at h
    obtain ⟨p, hp⟩ := hasR_mem.1 h.1
    exact hasR_mem.2 ⟨p, List.mem_filter.2 ⟨hp, by simp [h.2]⟩⟩
  | false =>
    rw [Bool.eq_false_iff]
    intro e
    obtain ⟨p, hp⟩ := hasR_mem.1 e
    obtain ⟨h1, h2⟩ := List.mem_filter.1 hp
    have := hasR_mem.2 ⟨p, h1⟩
    rw [this] at h
    simp at h h2
    exact h2 h
theorem take_len {L : WL} (hL : ListOk L) {x : Int × Int} {r : WL} (ho : ordL L = x :: r) : (takeL L).length + 1 = L.length := by
  have h1 := (ordL_perm hL).length_eq
  have hok : ListOk (takeL L) := by
    rw [take_filter hL ho]
    exact ⟨(List.Sublist.map _ (List.filter_sublist (l := L))).nodup hL.nodup, fun y hy => hL.ok y (List.mem_filter.1 hy).1⟩
  have h2 := (ordL_perm hok).length_eq
  rw [ord_take hL, ho, List.tail_cons] at h2
  rw [ho, List.length_cons] at h1
  omega

end Go.Proofs.Ytagnobmdcchcaaa
