
/- The best of those who wait, plain: what metronomelaw09.best looks for is the head of the order. -/
import Derived.Test.YtiiafhlckmkcnaaGreatIns
namespace Go.Proofs.YtiiafhlckmkcnaaGreat

/-- When each thread came; 0: it does not wait. -/
abbrev CL := List Int
def cAt (C : CL) (k : Nat) : Int := C.getD k 0

/-- The best of the threads below k: thread (-1: none) and priority. -/
def bst (L : WL) (C : CL) : Nat → Int × Int
  | 0 => (-1, 0)
  | k + 1 => if hasR L k = true ∧ (prioR L k > (bst L C k).2 ∨ (prioR L k = (bst L C k).2 ∧ cAt C k < cAt C (bst L C k).1.toNat)) then ((k : Int), prioR L k) else bst L C k

/-- The list and the array agree. -/
structure Agree (L : WL) (C : CL) : Prop where
  size : C.length = 16
  has : ∀ k : Nat, k < 16 → (0 < cAt C k ↔ hasR L k = true)
  low : ∀ k : Nat, 0 ≤ cAt C k
  came : L.Pairwise (fun x y => cAt C x.1.toNat < cAt C y.1.toNat)

structure ListOk (L : WL) : Prop where
  nodup : (L.map (·.1)).Nodup
  ok : ∀ x ∈ L, okT x.1 ∧ okP x.2

theorem hasR_mem {L : WL} {t : Int} : hasR L t = true ↔ ∃ p, (t, p) ∈ L := by
  unfold hasR
  induction L with
  | nil => simp
  | cons x L ih =>
    obtain ⟨k, q⟩ := x
    rw [List.lookup_cons]
    by_cases hc : t = k
    · subst hc; simp
    · have hc' : (t == k) = false := by simpa using hc
      rw [hc', ih]
      simp [hc]

theorem bst_spec {L : WL} {C : CL} (hL : ListOk L) : ∀ k : Nat, ((∀ j : Nat, j < k → hasR L j = false) ∧ bst L C k = (-1, 0)) ∨
    ∃ j : Nat, j < k ∧ hasR L j = true ∧ bst L C k = ((j : Int), prioR L j) ∧ ∀ i : Nat, i < k → hasR L i = true → i ≠ j → (prioR L i < prioR L j ∨ (prioR L i = prioR L j ∧ cAt C j ≤ cAt C i))
  | 0 => .inl ⟨by omega, rfl⟩
  | k + 1 => by
    have hp : ∀ t : Int, hasR L t = true → 1 ≤ prioR L t := fun t ht => by
      obtain ⟨p, hm⟩ := hasR_mem.1 ht
      have h1 : prioR L t = p := prioR_mem hL.nodup (x := (t, p)) hm
      have := (hL.ok _ hm).2
      unfold okP at this
      omega
    rcases bst_spec hL (C := C) k with ⟨h1, h2⟩ | ⟨j, hj, hh, h2, h3⟩
    · by_cases hk : hasR L (k : Int) = true
      · right
        refine ⟨k, by omega, hk, ?_, fun i hi hhi hne => by have := h1 i (by omega); rw [this] at hhi; cases hhi⟩
        have := hp k hk
        rw [bst, if_pos ⟨hk, .inl (by rw [h2]; show _ > (0 : Int); omega)⟩]
      · left
        refine ⟨fun i hi => ?_, by rw [bst, if_neg (fun h => hk h.1)]; exact h2⟩
        by_cases hik : i = k
        · subst hik; simpa using hk
        · exact h1 i (by omega)
    · right
      by_cases hc : hasR L (k : Int) = true ∧ (prioR L k > (bst L C k).2 ∨ (prioR L k = (bst L C k).2 ∧ cAt C k < cAt C (bst L C k).1.toNat))
      · refine ⟨k, by omega, hc.1, by rw [bst, if_pos hc], fun i hi hhi hne => ?_⟩
        have hc2 := hc.2
        rw [h2] at hc2
        simp only [Int.toNat_natCast] at hc2
        by_cases hij : i = j
        · subst hij
          rcases hc2 with hc2 | hc2
          · left; omega
          · right; exact ⟨by omega, by omega⟩
        · have := h3 i (by omega) hhi hij
          omega
      · refine ⟨j, by omega, hh, by rw [bst, if_neg hc]; exact h2, fun i hi hhi hne => ?_⟩
        by_cases hik : i = k
        · subst hik
          rw [h2] at hc
          simp only [Int.toNat_natCast] at hc
          have hn : ¬ (prioR L i > prioR L j ∨ (prioR L i = prioR L j ∧ cAt C i < cAt C j)) := fun h => hc ⟨hhi, h⟩
          omega
        · exact h3 i (by omega) hhi hne

theorem ordL_perm {L : WL} (hL : ListOk L) : (ordL L).Perm L :=
  flat_perm (fun x : Int × Int => x.2) 31 L (fun x hx => by have := (hL.ok x hx).2; unfold okP at this; omega)

theorem ordL_sorted {L : WL} (f : Int → Int) (h : L.Pairwise (fun x y => f x.1 < f y.1)) : (ordL L).Pairwise (fun x y => y.2 < x.2 ∨ (x.2 = y.2 ∧ f x.1 < f y.1)) := by
  have h1 : (L.map (fun x => W1.mk x.1 x.2 (f x.1))).Pairwise (fun x y => x.c < y.c) := List.pairwise_map.2 h
  have h2 := flat_pairwise _ h1 31
  have e : ((L.map (fun x => W1.mk x.1 x.2 (f x.1))).map W1.pair) = L := by
    rw [List.map_map]
    exact List.map_id L
  have h3 : ordL L = (ord1 (L.map (fun x => W1.mk x.1 x.2 (f x.1)))).map W1.pair := by rw [ord1_pair, e]
  rw [h3, List.pairwise_map]
  refine List.Pairwise.imp_of_mem ?_ h2
  intro x y hx hy hxy
  have hc : ∀ z ∈ ord1 (L.map (fun x => W1.mk x.1 x.2 (f x.1))), z.c = f z.t := fun z hz => by
    obtain ⟨i, _, hz⟩ := List.mem_flatMap.1 hz
    have := (List.mem_filter.1 hz).1
    obtain ⟨u, _, rfl⟩ := List.mem_map.1 this
    rfl
  rw [hc x hx, hc y hy] at hxy
  exact hxy

/-- THE BEST IS THE HEAD. -/
theorem bst_head {L : WL} {C : CL} (hL : ListOk L) (hA : Agree L C) : (ordL L = [] ∧ (bst L C 16).1 = -1) ∨ ∃ x r, ordL L = x :: r ∧ (bst L C 16).1 = x.1 ∧ okT x.1 ∧ x ∈ L := by
  have hp := ordL_perm hL
  cases ho : ordL L with
  | nil =>
    left
    refine ⟨rfl, ?_⟩
    rw [ho] at hp
    have : L = [] := hp.symm.eq_nil
    subst this
    rcases bst_spec hL (C := C) 16 with ⟨_, h2⟩ | ⟨j, _, hh, _⟩
    · rw [h2]
    · simp [hasR] at hh
  | cons x r =>
    right
    have hx : x ∈ L := hp.mem_iff.1 (by rw [ho]; simp)
    have hok := hL.ok x hx
    have hxt := hok.1
    unfold okT at hxt
    refine ⟨x, r, rfl, ?_, hok.1, hx⟩
    have hs := ordL_sorted (fun t => cAt C t.toNat) hA.came
    rw [ho] at hs
    have hs := (List.pairwise_cons.1 hs).1
    have hcx : ((x.1.toNat : Nat) : Int) = x.1 := by omega
    have hhx : hasR L x.1 = true := hasR_mem.2 ⟨x.2, hx⟩
    have hpx : prioR L x.1 = x.2 := prioR_mem hL.nodup hx
    rcases bst_spec hL (C := C) 16 with ⟨h1, _⟩ | ⟨j, hj, hh, h2, h3⟩
    · have := h1 x.1.toNat (by omega)
      rw [hcx, hhx] at this
      cases this
    · rw [h2]
      show (j : Int) = x.1
      by_cases hjx : (j : Int) = x.1
      · exact hjx
      · exfalso
        obtain ⟨p, hm⟩ := hasR_mem.1 hh
        have hpj : prioR L (j : Int) = p := prioR_mem hL.nodup (x := ((j : Int), p)) hm
        have hmr : ((j : Int), p) ∈ r := by
          have := hp.mem_iff.2 hm
          rw [ho] at this
          rcases List.mem_cons.1 this with h | h
          · exact absurd (congrArg Prod.fst h) hjx
          · exact h
        have h4 := hs _ hmr
        have h5 := h3 x.1.toNat (by omega) (by rw [hcx]; exact hhx) (by omega)
        rw [hcx, hpx, hpj] at h5
        simp only [Int.toNat_natCast] at h4
        omega

theorem cAt_rep (n k : Nat) : cAt (List.replicate n 0) k = 0 := by
  unfold cAt
  simp only [List.getD, List.getElem?_replicate]
  split <;> rfl
theorem agree_new : Agree [] (List.replicate 16 0) := by
  refine ⟨rfl, fun k hk => ?_, fun k => ?_, .nil⟩
  · have : cAt (List.replicate 16 0) k = 0 := cAt_rep 16 k
    rw [this]
    simp [hasR]
  · have : cAt (List.replicate 16 0) k = 0 := cAt_rep 16 k
    omega

theorem cAt_set (C : CL) (i k : Nat) (x : Int) (hi : i < C.length) : cAt (C.set i x) k = if i = k then x else cAt C k := by
  unfold cAt
  simp only [List.getD, List.getElem?_set]
  by_cases h : i = k
  · subst h; simp [hi]
  · simp [h]

theorem wdel_filter {L : WL} {t : Int} (h : (L.map (·.1)).Nodup) : wdel L t = L.filter (fun x => !(x.1 == t)) := by
  induction L with
  | nil => rfl
  | cons x L ih =>
    obtain ⟨k, q⟩ := x
    have h' := List.nodup_cons.1 h
    by_cases hc : t = k
    · subst hc
      have : L.filter (fun p => !(p.1 == t)) = L := List.filter_eq_self.2 (fun p hp => by
        have : p.1 ≠ t := fun e => h'.1 (List.mem_map.2 ⟨p, hp, e⟩)
        simpa using this)
      simp [wdel, this]
    · have hc' : ¬ k = t := fun e => hc e.symm
      simp [wdel, hc, hc', ih h'.2]

theorem wupd_map {L : WL} {t p : Int} (h : (L.map (·.1)).Nodup) : wupd L t p = L.map (fun x => if x.1 = t then (t, p) else x) := by
  induction L with
  | nil => rfl
  | cons x L ih =>
    obtain ⟨k, q⟩ := x
    have h' := List.nodup_cons.1 h
    by_cases hc : t = k
    · subst hc
      have : L.map (fun x => if x.1 = t then (t, p) else x) = L := by
        have : L.map (fun x => if x.1 = t then (t, p) else x) = L.map id := List.map_congr_left (fun x hx => by
          have : x.1 ≠ t := fun e => h'.1 (List.mem_map.2 ⟨x, hx, e⟩)
          simp [this])
        rw [this, List.map_id]
      simp [wupd, this]
    · have hc' : ¬ k = t := fun e => hc e.symm
      simp [wupd, hc, hc', ih h'.2]

theorem agree_put {L : WL} {C : CL} (hA : Agree L C) (hL : ListOk L) {t p x : Int} (ht : okT t) (hn : hasR L t = false) (hx : ∀ k, cAt C k < x) : Agree (L ++ [(t, p)]) (C.set t.toNat x) := by
  unfold okT at ht
  have hs := hA.size
  have hx0 : 0 < x := by have := hA.low 0; have := hx 0; omega
  refine ⟨by simp [hs], fun k hk => ?_, fun k => ?_, ?_⟩
  · rw [cAt_set _ _ _ _ (by omega)]
    by_cases hc : t.toNat = k
    · rw [if_pos hc]
      have : (k : Int) = t := by omega
      rw [this]
      exact ⟨fun _ => hasR_mem.2 ⟨p, by simp⟩, fun _ => hx0⟩
    · rw [if_neg hc, hA.has k hk, hasR_mem, hasR_mem]
      have : (k : Int) ≠ t := by omega
      simp [this]
  · rw [cAt_set _ _ _ _ (by omega)]
    split
    · omega
    · exact hA.low k
  · refine List.pairwise_append.2 ⟨?_, by simp, ?_⟩
    · refine List.Pairwise.imp_of_mem ?_ hA.came
      intro a b ha hb hab
      have hne : ∀ y ∈ L, t.toNat ≠ y.1.toNat := fun y hy e => by
        have := (hL.ok y hy).1
        unfold okT at this
        have e2 : y.1 = t := by omega
        have : hasR L t = true := hasR_mem.2 ⟨y.2, by rw [← e2]; exact hy⟩
        rw [hn] at this
        cases this
      rw [cAt_set _ _ _ _ (by omega), cAt_set _ _ _ _ (by omega), if_neg (hne a ha), if_neg (hne b hb)]
      exact hab
    · intro a ha b hb
      simp at hb
      subst hb
      have hne : t.toNat ≠ a.1.toNat := fun e => by
        have := (hL.ok a ha).1
        unfold okT at this
        have e2 : a.1 = t := by omega
        have : hasR L t = true := hasR_mem.2 ⟨a.2, by rw [← e2]; exact ha⟩
        rw [hn] at this
        cases this
      rw [cAt_set _ _ _ _ (by omega), cAt_set _ _ _ _ (by omega), if_neg hne, if_pos rfl]
      exact hx _

theorem agree_del {L : WL} {C : CL} (hA : Agree L C) (hL : ListOk L) {t : Int} (ht : okT t) : Agree (wdel L t) (C.set t.toNat 0) := by
  unfold okT at ht
  have hs := hA.size
  rw [wdel_filter hL.nodup]
  refine ⟨by simp [hs], fun k hk => ?_, fun k => ?_, ?_⟩
  · rw [cAt_set _ _ _ _ (by omega)]
    by_cases hc : t.toNat = k
    · rw [if_pos hc]
      have : (k : Int) = t := by omega
      rw [this, hasR_mem]
      simp
    · rw [if_neg hc, hA.has k hk, hasR_mem, hasR_mem]
      have : (k : Int) ≠ t := by omega
      simp [this]
  · rw [cAt_set _ _ _ _ (by omega)]
    split
    · omega
    · exact hA.low k
  · refine List.Pairwise.imp_of_mem ?_ (List.Pairwise.filter _ hA.came)
    intro a b ha hb hab
    have hne : ∀ y ∈ L.filter (fun x => !(x.1 == t)), t.toNat ≠ y.1.toNat := fun y hy e => by
      have h1 := List.mem_filter.1 hy
      have := (hL.ok y h1.1).1
      unfold okT at this
      have e2 : y.1 = t := by omega
      have h2 := h1.2
      simp [e2] at h2
    rw [cAt_set _ _ _ _ (by omega), cAt_set _ _ _ _ (by omega), if_neg (hne a ha), if_neg (hne b hb)]
    exact hab

theorem agree_chg {L : WL} {C : CL} (hA : Agree L C) (hL : ListOk L) (t p : Int) : Agree (wupd L t p) C := by
  rw [wupd_map hL.nodup]
  refine ⟨hA.size, fun k hk => ?_, hA.low, ?_⟩
  · rw [hA.has k hk, hasR_mem, hasR_mem]
    constructor
    · rintro ⟨q, hm⟩
      by_cases hc : (k : Int) = t
      · exact ⟨p, List.mem_map.2 ⟨_, hm, by simp [hc]⟩⟩
      · exact ⟨q, List.mem_map.2 ⟨_, hm, by simp [hc]⟩⟩
    · rintro ⟨q, hm⟩
      obtain ⟨y, hy, he⟩ := List.mem_map.1 hm
      by_cases hc : y.1 = t
      · rw [if_pos hc] at he
        have : (k : Int) = t := (congrArg Prod.fst he).symm
        exact ⟨y.2, by rw [this, ← hc]; exact hy⟩
      · rw [if_neg hc] at he
        exact ⟨q, by rw [← he]; exact hy⟩
  · rw [List.pairwise_map]
    refine List.Pairwise.imp_of_mem ?_ hA.came
    intro a b _ _ hab
    have e : ∀ y : Int × Int, (if y.1 = t then (t, p) else y).1 = y.1 := fun y => by split <;> simp_all
    rw [e, e]
    exact hab

theorem WAt.lok {w : World} {ab mb : Nat} {N : Int} {L : WL} (h : WAt w ab mb N L) : ListOk L := ⟨h.facts.1, h.facts.2.1⟩

end Go.Proofs.YtiiafhlckmkcnaaGreat
