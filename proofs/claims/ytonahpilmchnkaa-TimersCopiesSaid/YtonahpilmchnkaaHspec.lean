
/- The wheel, the plain side: deadlines as triples (number, time, when it was set), in the order in which they were set. No program in sight. -/
import Derived.WalkKit
namespace Go.Proofs.Ytonahpilmchnkaa

abbrev H1 := Int × Int × Int
abbrev HL := List H1

def ltH (x y : H1) : Prop := x.2.1 < y.2.1 ∨ (x.2.1 = y.2.1 ∧ x.2.2 < y.2.2)
def cfH (x y : H1) : Int := if x.2.1 < y.2.1 then -1 else if y.2.1 < x.2.1 then 1 else if x.2.2 < y.2.2 then -1 else if y.2.2 < x.2.2 then 1 else 0
theorem cfH_lt {x y : H1} : cfH x y < 0 ↔ ltH x y := by
  unfold cfH ltH
  split
  · simp; omega
  · split
    · simp; omega
    · split
      · simp; omega
      · split <;> simp <;> omega

/-- One more, behind all that are due as soon. -/
def insH (l : HL) (x : H1) : HL := l.takeWhile (fun y => decide (y.2.1 ≤ x.2.1)) ++ x :: l.dropWhile (fun y => decide (y.2.1 ≤ x.2.1))
/-- The order: by time, of one time by when it was set. -/
def ordH (M : HL) : HL := M.foldl insH []
def delH (M : HL) (n : Int) : HL := M.filter (fun x => !(x.1 == n))
def ringH (M : HL) (k : Nat) : HL := M.filter (fun x => x.2.1 % 64 == (k : Int))
def hasH (M : HL) (n : Int) : Bool := M.any (fun x => x.1 == n)
def whereH (M : HL) (n : Int) : Int := match M.find? (fun x => x.1 == n) with | none => 0 | some x => x.2.1 % 64 + 1

/-- Deadlines, and how many were set. -/
structure HS where
  M : HL
  c : Int
structure HInv (s : HS) : Prop where
  ok : ∀ x ∈ s.M, 0 ≤ x.1 ∧ x.1 < 64 ∧ 0 ≤ x.2.1 ∧ x.2.1 ≤ 1099511627776 ∧ x.2.2 ≤ s.c
  ids : (s.M.map (·.1)).Nodup
  sets : s.M.Pairwise (fun x y => x.2.2 < y.2.2)
  c0 : 0 ≤ s.c

def okId (n : Int) : Prop := 0 ≤ n ∧ n < 64
def okAt (t : Int) : Prop := 0 ≤ t ∧ t ≤ 1099511627776
instance (n : Int) : Decidable (okId n) := by unfold okId; infer_instance
instance (n : Int) : Decidable (okAt n) := by unfold okAt; infer_instance
def HS.setE (n t : Int) : Int := if okId n ∧ okAt t then 0 else 2
def HS.setS (s : HS) (n t : Int) : HS := if okId n ∧ okAt t then ⟨delH s.M n ++ [(n, t, s.c + 1)], s.c + 1⟩ else s
def HS.canE (s : HS) (n : Int) : Int := if okId n then (if hasH s.M n = true then 0 else 6) else 2
def HS.canS (s : HS) (n : Int) : HS := ⟨delH s.M n, s.c⟩
def HS.dueL (s : HS) (now : Int) : List Int := (ordH (s.M.filter (fun x => decide (x.2.1 ≤ now)))).map (·.1)
def HS.dueS (s : HS) (now : Int) : HS := ⟨s.M.filter (fun x => !decide (x.2.1 ≤ now)), s.c⟩

/-! ### The order -/
theorem insH_perm (l : HL) (x : H1) : (insH l x).Perm (x :: l) := by
  unfold insH
  refine List.perm_middle.trans (List.Perm.cons x ?_)
  rw [List.takeWhile_append_dropWhile]
theorem foldl_perm (M : HL) : ∀ l : HL, (M.foldl insH l).Perm (l ++ M) := by
  induction M with
  | nil => intro l; simp
  | cons x M ih =>
    intro l
    rw [List.foldl_cons]
    refine (ih _).trans ?_
    refine ((insH_perm l x).append_right M).trans ?_
    exact List.perm_middle.symm
theorem ordH_perm (M : HL) : (ordH M).Perm M := by simpa [ordH] using foldl_perm M []
theorem ordH_snoc (M : HL) (x : H1) : ordH (M ++ [x]) = insH (ordH M) x := by unfold ordH; rw [List.foldl_append]; rfl
theorem ordH_mem {M : HL} {x : H1} : x ∈ ordH M ↔ x ∈ M := (ordH_perm M).mem_iff
theorem ordH_len (M : HL) : (ordH M).length = M.length := (ordH_perm M).length_eq

theorem mem_takeW {α : Type} {p : α → Bool} {l : List α} {y : α} (h : y ∈ l.takeWhile p) : y ∈ l ∧ p y = true := by
  induction l with
  | nil => simp at h
  | cons z l ih =>
    rw [List.takeWhile_cons] at h
    split at h
    · rename_i hz
      rcases List.mem_cons.1 h with rfl | h
      · exact ⟨by simp, hz⟩
      · exact ⟨List.mem_cons_of_mem _ (ih h).1, (ih h).2⟩
    · simp at h
theorem insH_sorted {l : HL} {x : H1} (hl : l.Pairwise ltH) (hx : ∀ y ∈ l, y.2.2 < x.2.2) : (insH l x).Pairwise ltH := by
  unfold insH
  rw [List.pairwise_append]
  have hd : ∀ y ∈ l.dropWhile (fun y => decide (y.2.1 ≤ x.2.1)), x.2.1 < y.2.1 := by
    have h1 : (l.dropWhile (fun y => decide (y.2.1 ≤ x.2.1))).Pairwise ltH := hl.sublist (List.dropWhile_sublist _)
    have h2 : ∀ z r, l.dropWhile (fun y => decide (y.2.1 ≤ x.2.1)) = z :: r → x.2.1 < z.2.1 := fun z r e => by
      have := List.head?_dropWhile_not (fun y : H1 => decide (y.2.1 ≤ x.2.1)) l
      rw [e] at this
      simp at this
      exact this
    intro y hy
    rcases hdw : l.dropWhile (fun y => decide (y.2.1 ≤ x.2.1)) with _ | ⟨z, r⟩
    · rw [hdw] at hy; simp at hy
    · have hz := h2 z r hdw
      rw [hdw] at hy h1
      rcases List.mem_cons.1 hy with rfl | hy
      · exact hz
      · have := (List.pairwise_cons.1 h1).1 y hy
        unfold ltH at this
        omega
  refine ⟨hl.sublist (List.takeWhile_sublist _), List.pairwise_cons.2 ⟨fun y hy => .inl (hd y hy), hl.sublist (List.dropWhile_sublist _)⟩, ?_⟩
  intro y hy z hz
  obtain ⟨hy1, hy2⟩ := mem_takeW hy
  simp at hy2
  rcases List.mem_cons.1 hz with rfl | hz
  · have := hx y hy1
    unfold ltH
    omega
  · have := hd z hz
    unfold ltH
    omega
theorem foldl_sorted (M : HL) : ∀ l : HL, l.Pairwise ltH → M.Pairwise (fun x y => x.2.2 < y.2.2) → (∀ y ∈ l, ∀ x ∈ M, y.2.2 < x.2.2) → (M.foldl insH l).Pairwise ltH := by
  induction M with
  | nil => intro l h _ _; exact h
  | cons x M ih =>
    intro l h hM hl
    obtain ⟨h1, h2⟩ := List.pairwise_cons.1 hM
    refine ih _ (insH_sorted h (fun y hy => hl y hy x (by simp))) h2 ?_
    intro y hy z hz
    rcases List.mem_cons.1 ((insH_perm l x).mem_iff.1 hy) with rfl | hy
    · exact h1 z hz
    · exact hl y hy z (by simp [hz])
theorem ordH_sorted {M : HL} (h : M.Pairwise (fun x y => x.2.2 < y.2.2)) : (ordH M).Pairwise ltH := foldl_sorted M [] .nil h (by simp)
theorem set_inj : ∀ {M : HL}, M.Pairwise (fun x y => x.2.2 < y.2.2) → ∀ {x y}, x ∈ M → y ∈ M → x.2.2 = y.2.2 → x = y
  | [], _, _, _, hx, _, _ => by cases hx
  | z :: M, h, x, y, hx, hy, e => by
    have h' := List.pairwise_cons.1 h
    rcases List.mem_cons.1 hx with rfl | hx1
    · rcases List.mem_cons.1 hy with rfl | hy1
      · rfl
      · have := h'.1 y hy1; omega
    · rcases List.mem_cons.1 hy with rfl | hy1
      · have := h'.1 x hx1; omega
      · exact set_inj h'.2 hx1 hy1 e
theorem ordH_unique {M ts : HL} (hM : M.Pairwise (fun x y => x.2.2 < y.2.2)) (hp : ts.Perm M) (hs : ts.Pairwise (fun x y => ¬ cfH y x < 0)) : ts = ordH M := by
  refine List.Perm.eq_of_pairwise (le := fun x y => ¬ cfH y x < 0) ?_ hs ?_ (hp.trans (ordH_perm M).symm)
  · intro a b ha hb hab hba
    rw [cfH_lt] at hab hba
    refine set_inj hM (hp.mem_iff.1 ha) ((ordH_perm M).mem_iff.1 hb) ?_
    unfold ltH at hab hba
    omega
  · refine List.Pairwise.imp ?_ (ordH_sorted hM)
    intro a b hab
    rw [cfH_lt]
    unfold ltH at hab ⊢
    omega
theorem ordH_filter {M : HL} (hM : M.Pairwise (fun x y => x.2.2 < y.2.2)) (p : H1 → Bool) : ordH (M.filter p) = (ordH M).filter p := by
  symm
  refine ordH_unique (hM.sublist List.filter_sublist) ((ordH_perm M).filter p) ?_
  refine List.Pairwise.imp ?_ ((ordH_sorted hM).sublist List.filter_sublist)
  intro a b hab
  rw [cfH_lt]
  unfold ltH at hab ⊢
  omega

/-! ### The rings -/
theorem part_perm (M : HL) (f : H1 → Int) (h0 : ∀ x, 0 ≤ f x) : ∀ n : Nat, ((List.range n).flatMap fun (k : Nat) => M.filter (fun x => f x == (k : Int))).Perm (M.filter (fun x => decide (f x < n)))
  | 0 => by
    rw [show (M.filter (fun x => decide (f x < ((0 : Nat) : Int)))) = [] from by
      rw [List.filter_eq_nil_iff]
      intro x _
      have := h0 x
      simp
      omega]
    simp
  | n + 1 => by
    rw [List.range_succ, List.flatMap_append]
    simp only [List.flatMap_cons, List.flatMap_nil, List.append_nil]
    refine ((part_perm M f h0 n).append_right _).trans ?_
    have h := List.filter_append_perm (fun x => decide (f x < (n : Int))) (M.filter (fun x => decide (f x < ((n + 1 : Nat) : Int))))
    rw [List.filter_filter, List.filter_filter] at h
    refine List.Perm.trans (List.Perm.of_eq ?_) h
    congr 1
    · apply List.filter_congr
      intro x _
      by_cases h1 : f x < (n : Int)
      · have : f x < ((n + 1 : Nat) : Int) := by omega
        simp [h1]
        omega
      · simp [h1]
    · apply List.filter_congr
      intro x _
      have := h0 x
      rw [Bool.eq_iff_iff]
      simp
      omega
theorem rings_perm (M : HL) : ((List.range 64).flatMap (ringH M)).Perm M := by
  refine (part_perm M (fun x => x.2.1 % 64) (fun x => by omega) 64).trans (List.Perm.of_eq ?_)
  rw [List.filter_eq_self]
  intro x _
  simp
  omega
theorem rings_filter (M : HL) (p : H1 → Bool) : ((List.range 64).flatMap fun k => (ringH M k).filter p).Perm (M.filter p) := by
  have h := (rings_perm M).filter p
  rwa [List.filter_flatMap] at h

theorem HInv.few {s : HS} (h : HInv s) : s.M.length ≤ 64 := by
  have h1 := List.Nodup.length_le_of_subset (l₁ := s.M.map (·.1)) (l₂ := (List.range 64).map (fun k : Nat => (k : Int))) h.ids (by
    intro t ht
    obtain ⟨x, hx, rfl⟩ := List.mem_map.1 ht
    have := h.ok x hx
    exact List.mem_map.2 ⟨x.1.toNat, by simp; omega, by omega⟩)
  simpa using h1
theorem ring_len (M : HL) (k : Nat) : (ringH M k).length ≤ M.length := List.length_filter_le _ _

/-! ### One number -/
theorem has_iff {M : HL} {n : Int} : hasH M n = true ↔ ∃ x ∈ M, x.1 = n := by unfold hasH; simp
theorem del_none {M : HL} {n : Int} (h : hasH M n = false) : delH M n = M := by
  unfold delH
  rw [List.filter_eq_self]
  intro x hx
  have : ¬ hasH M n = true := by simp [h]
  rw [has_iff] at this
  have hn : x.1 ≠ n := fun e => this ⟨x, hx, e⟩
  simpa using hn
theorem where_has {M : HL} {n : Int} : (whereH M n = 0 ∧ hasH M n = false) ∨ ∃ x ∈ M, x.1 = n ∧ whereH M n = x.2.1 % 64 + 1 ∧ hasH M n = true ∧ M.find? (fun x => x.1 == n) = some x := by
  unfold whereH
  cases h : M.find? (fun x => x.1 == n) with
  | none =>
    left
    refine ⟨rfl, ?_⟩
    unfold hasH
    rw [List.any_eq_false]
    intro x hx
    exact List.find?_eq_none.1 h x hx
  | some x =>
    right
    have h1 := List.find?_some h
    have h2 := List.mem_of_find?_eq_some h
    refine ⟨x, h2, by simpa using h1, rfl, ?_, rfl⟩
    exact has_iff.2 ⟨x, h2, by simpa using h1⟩
theorem id_inj {M : HL} (h : (M.map (·.1)).Nodup) {x y : H1} (hx : x ∈ M) (hy : y ∈ M) (e : x.1 = y.1) : x = y := by
  induction M with
  | nil => cases hx
  | cons z M ih =>
    rw [List.map_cons, List.nodup_cons] at h
    rcases List.mem_cons.1 hx with rfl | hx1
    · rcases List.mem_cons.1 hy with rfl | hy1
      · rfl
      · exact absurd (List.mem_map.2 ⟨y, hy1, e.symm⟩) h.1
    · rcases List.mem_cons.1 hy with rfl | hy1
      · exact absurd (List.mem_map.2 ⟨x, hx1, e⟩) h.1
      · exact ih h.2 hx1 hy1
theorem where_del {M : HL} {n m : Int} : whereH (delH M n) m = if m = n then 0 else whereH M m := by
  have hf : (delH M n).find? (fun x => x.1 == m) = if m = n then none else M.find? (fun x => x.1 == m) := by
    unfold delH
    rw [List.find?_filter]
    by_cases hmn : m = n
    · subst hmn
      rw [if_pos rfl, List.find?_eq_none]
      intro x _
      simp
    · rw [if_neg hmn]
      congr 1
      funext x
      by_cases hx : x.1 = m
      · subst hx
        simp [hmn]
      · simp [hx]
  unfold whereH
  rw [hf]
  by_cases hmn : m = n
  · simp [hmn]
  · simp [hmn]
theorem where_snoc {M : HL} {x : H1} (h : hasH M x.1 = false) (m : Int) : whereH (M ++ [x]) m = if m = x.1 then x.2.1 % 64 + 1 else whereH M m := by
  have hn : ¬ hasH M x.1 = true := by simp [h]
  rw [has_iff] at hn
  unfold whereH
  rw [List.find?_append]
  by_cases hm : m = x.1
  · subst hm
    have : M.find? (fun y => y.1 == x.1) = none := by
      rw [List.find?_eq_none]
      intro y hy
      have : y.1 ≠ x.1 := fun e => hn ⟨y, hy, e⟩
      simpa using this
    rw [this]
    simp
  · rw [if_neg hm]
    cases h : M.find? (fun y => y.1 == m) with
    | some z => simp
    | none =>
      have : ¬ x.1 = m := fun e => hm e.symm
      simp [this]
theorem del_has (M : HL) (n : Int) : hasH (delH M n) n = false := by
  unfold hasH delH
  rw [List.any_eq_false]
  intro x hx
  have := (List.mem_filter.1 hx).2
  simpa using this
theorem ring_del (M : HL) (n : Int) (k : Nat) : ringH (delH M n) k = delH (ringH M k) n := by
  unfold ringH delH
  rw [List.filter_filter, List.filter_filter]
  apply List.filter_congr
  intro x _
  exact Bool.and_comm _ _
theorem ring_del_other {s : HS} (h : HInv s) {x : H1} (hx : x ∈ s.M) (k : Nat) (hk : (k : Int) ≠ x.2.1 % 64) : ringH (delH s.M x.1) k = ringH s.M k := by
  rw [ring_del]
  apply del_none
  cases hh : hasH (ringH s.M k) x.1 with
  | false => rfl
  | true =>
    obtain ⟨y, hy, e⟩ := has_iff.1 hh
    obtain ⟨h1, h2⟩ := List.mem_filter.1 hy
    have := id_inj h.ids h1 hx e
    subst this
    simp at h2
    exact absurd h2.symm hk
theorem ring_snoc (M : HL) (x : H1) (k : Nat) : ringH (M ++ [x]) k = if (k : Int) = x.2.1 % 64 then ringH M k ++ [x] else ringH M k := by
  unfold ringH
  rw [List.filter_append]
  by_cases h : (k : Int) = x.2.1 % 64
  · rw [if_pos h]
    simp [h]
  · rw [if_neg h]
    have : ¬ x.2.1 % 64 = (k : Int) := fun e => h e.symm
    simp [this]
theorem del_len {s : HS} (h : HInv s) {n : Int} (hn : hasH s.M n = true) : ((delH s.M n).length : Int) = (s.M.length : Int) - 1 := by
  obtain ⟨x, hx, rfl⟩ := has_iff.1 hn
  have hi := h.ids
  have key : ∀ M : HL, (M.map (·.1)).Nodup → x ∈ M → (delH M x.1).length + 1 = M.length := by
    intro M
    induction M with
    | nil => intro _ h; cases h
    | cons z M ih =>
      intro hn hm
      rw [List.map_cons, List.nodup_cons] at hn
      rcases List.mem_cons.1 hm with rfl | hm1
      · have : delH M x.1 = M := del_none (by
          cases hh : hasH M x.1 with
          | false => rfl
          | true =>
            obtain ⟨y, hy, e⟩ := has_iff.1 hh
            exact absurd (List.mem_map.2 ⟨y, hy, e⟩) hn.1)
        have e2 : delH (x :: M) x.1 = delH M x.1 := by unfold delH; rw [List.filter_cons]; simp
        rw [e2, this]
        simp
      · have hne : z.1 ≠ x.1 := fun e => hn.1 (List.mem_map.2 ⟨x, hm1, e.symm⟩)
        have : delH (z :: M) x.1 = z :: delH M x.1 := by unfold delH; rw [List.filter_cons]; simp [hne]
        rw [this]
        simp
        exact ih hn.2 hm1
  have := key s.M hi hx
  omega

theorem HInv.del {s : HS} (h : HInv s) (n : Int) : HInv ⟨delH s.M n, s.c⟩ :=
  ⟨fun x hx => h.ok x (List.mem_filter.1 hx).1, h.ids.sublist (List.filter_sublist.map _), h.sets.sublist List.filter_sublist, h.c0⟩
theorem HInv.filter {s : HS} (h : HInv s) (p : H1 → Bool) : HInv ⟨s.M.filter p, s.c⟩ :=
  ⟨fun x hx => h.ok x (List.mem_filter.1 hx).1, h.ids.sublist (List.filter_sublist.map _), h.sets.sublist List.filter_sublist, h.c0⟩
theorem HInv.snoc {s : HS} (h : HInv s) {n t : Int} (hn : okId n) (ht : okAt t) (hh : hasH s.M n = false) : HInv ⟨s.M ++ [(n, t, s.c + 1)], s.c + 1⟩ := by
  refine ⟨?_, ?_, ?_, by have := h.c0; simp; omega⟩
  · intro x hx
    rcases List.mem_append.1 hx with hx | hx
    · have := h.ok x hx
      simp only
      omega
    · simp at hx
      subst hx
      unfold okId at hn
      unfold okAt at ht
      simp only
      omega
  · show ((s.M ++ [(n, t, s.c + 1)]).map (·.1)).Nodup
    rw [List.map_append, List.nodup_append]
    refine ⟨h.ids, by simp, ?_⟩
    intro a ha b hb e
    simp at hb
    subst hb
    subst e
    obtain ⟨x, hx, e⟩ := List.mem_map.1 ha
    have : hasH s.M a = true := has_iff.2 ⟨x, hx, e⟩
    rw [this] at hh
    cases hh
  · show (s.M ++ [(n, t, s.c + 1)]).Pairwise _
    rw [List.pairwise_append]
    refine ⟨h.sets, by simp, ?_⟩
    intro x hx y hy
    simp at hy
    subst hy
    have := h.ok x hx
    simp only
    omega
theorem HInv.setS {s : HS} (h : HInv s) (n t : Int) : HInv (s.setS n t) := by
  unfold HS.setS
  split
  · rename_i hh
    exact (h.del n).snoc (s := ⟨delH s.M n, s.c⟩) hh.1 hh.2 (del_has _ _)
  · exact h
theorem HInv.new : HInv ⟨[], 0⟩ := ⟨by simp, by simp, by simp, by simp⟩

end Go.Proofs.Ytonahpilmchnkaa
