
/- The wheel and the document's: what both make of a step is the same. No program in sight. -/
import Derived.Test.YtpaaanjghcloeaaHo
import Derived.Test.YtpaaanjghcloeaaHk
namespace Go.Proofs.Ytpaaanjghcloeaa
open Go.RowKit

def dOf (s : HS) : DL := (ordH s.M).map keyH
theorem dOf_len (s : HS) : (dOf s).length = s.M.length := by unfold dOf; rw [List.length_map, ordH_len]
theorem dOf_few {s : HS} (h : HInv s) : (dOf s).length ≤ 64 := by rw [dOf_len]; exact h.few
theorem ordH_ids {s : HS} (h : HInv s) : ((ordH s.M).map (·.1)).Nodup := (((ordH_perm _).map (·.1)).nodup_iff).2 h.ids

theorem idxD_cons (x : Int × Int) (l : DL) (n : Int) : idxD (x :: l) n = if x.1 = n then some 0 else (idxD l n).map (· + 1) := by
  unfold idxD
  rw [List.findIdx?_cons]
  by_cases h : x.1 = n
  · simp [h]
  · have : (x.1 == n) = false := by simpa using h
    simp [this, h]
theorem delD_cons (x : Int × Int) (l : DL) (n : Int) : delD (x :: l) n = if x.1 = n then l else x :: delD l n := by
  unfold delD
  rw [idxD_cons]
  by_cases h : x.1 = n
  · simp [h]
  · rw [if_neg h, if_neg h]
    cases idxD l n with
    | none => rfl
    | some i => simp
theorem delD_map {n : Int} : ∀ {L : HL}, (L.map (·.1)).Nodup → delD (L.map keyH) n = (L.filter fun x => !(x.1 == n)).map keyH
  | [], _ => rfl
  | x :: L, h => by
    rw [List.map_cons, List.nodup_cons] at h
    rw [List.map_cons, delD_cons, List.filter_cons]
    by_cases hx : x.1 = n
    · have e : (L.filter fun y => !(y.1 == n)) = L := by
        rw [List.filter_eq_self]
        intro y hy
        have : y.1 ≠ n := fun e => h.1 (List.mem_map.2 ⟨y, hy, by rw [e, hx]⟩)
        simpa using this
      simp [keyH, hx, e]
    · have h1 : ¬ (keyH x).1 = n := hx
      rw [if_neg h1, delD_map h.2]
      simp [hx]
theorem hasD_map (L : HL) (n : Int) : hasD (L.map keyH) n = L.any fun x => x.1 == n := by
  unfold hasD
  induction L with
  | nil => rfl
  | cons x L ih =>
    rw [List.map_cons, idxD_cons, List.any_cons]
    by_cases hx : x.1 = n
    · have h1 : (keyH x).1 = n := hx
      simp [h1, hx]
    · have h1 : ¬ (keyH x).1 = n := hx
      have h2 : (x.1 == n) = false := by simpa using hx
      rw [if_neg h1, h2, Option.isSome_map, ih]
      rfl
theorem hasH_ord (M : HL) (n : Int) : ((ordH M).any fun x => x.1 == n) = hasH M n := by
  unfold hasH
  rw [Bool.eq_iff_iff, List.any_eq_true, List.any_eq_true]
  constructor
  · rintro ⟨x, hx, h⟩; exact ⟨x, ordH_mem.1 hx, h⟩
  · rintro ⟨x, hx, h⟩; exact ⟨x, ordH_mem.2 hx, h⟩
theorem dOf_del {s : HS} (h : HInv s) (n : Int) : delD (dOf s) n = dOf ⟨delH s.M n, s.c⟩ := by
  unfold dOf
  rw [delD_map (ordH_ids h)]
  show _ = (ordH (delH s.M n)).map keyH
  unfold delH
  rw [ordH_filter h.sets]
theorem dOf_canE {s : HS} (_h : HInv s) (n : Int) : canDE (dOf s) n = s.canE n := by
  unfold canDE HS.canE dOf
  rw [hasD_map, hasH_ord]
theorem dOf_canS {s : HS} (h : HInv s) (n : Int) : canDS (dOf s) n = dOf (s.canS n) := by
  unfold canDS HS.canS
  by_cases hk : okId n
  · rw [if_pos hk, dOf_del h]
  · have hf : hasH s.M n = false := by
      cases hh : hasH s.M n with
      | false => rfl
      | true =>
        obtain ⟨x, hx, rfl⟩ := has_iff.1 hh
        have := h.ok x hx
        exact absurd (show okId x.1 from ⟨this.1, this.2.1⟩) hk
    rw [if_neg hk, del_none hf]
theorem take_key (L : HL) (t : Int) : (L.map keyH).takeWhile (fun y => decide (y.2 ≤ t)) = (L.takeWhile fun y => decide (y.2.1 ≤ t)).map keyH := by
  induction L with
  | nil => rfl
  | cons x L ih =>
    rw [List.map_cons, List.takeWhile_cons, List.takeWhile_cons, ih]
    have : (keyH x).2 = x.2.1 := rfl
    rw [this]
    split <;> rfl
theorem drop_key (L : HL) (t : Int) : (L.map keyH).dropWhile (fun y => decide (y.2 ≤ t)) = (L.dropWhile fun y => decide (y.2.1 ≤ t)).map keyH := by
  induction L with
  | nil => rfl
  | cons x L ih =>
    rw [List.map_cons, List.dropWhile_cons, List.dropWhile_cons, ih]
    have : (keyH x).2 = x.2.1 := rfl
    rw [this]
    split <;> rfl
theorem dOf_set {s : HS} (h : HInv s) (n t : Int) : setDS (dOf s) n t = dOf (s.setS n t) := by
  unfold setDS HS.setS
  by_cases hh : okId n ∧ okAt t
  · rw [if_pos hh, if_pos hh, dOf_del h]
    unfold insD
    rw [cutD_take, cutD_drop]
    show _ = (ordH (delH s.M n ++ [(n, t, s.c + 1)])).map keyH
    rw [ordH_snoc]
    unfold insH dOf
    simp only [take_key, drop_key, List.map_append, List.map_cons]
    rfl
  · rw [if_neg hh, if_neg hh]
theorem sorted_take {now : Int} : ∀ {L : HL}, L.Pairwise ltH → L.filter (fun x => decide (x.2.1 ≤ now)) = L.takeWhile (fun x => decide (x.2.1 ≤ now)) ∧ L.filter (fun x => !decide (x.2.1 ≤ now)) = L.dropWhile (fun x => decide (x.2.1 ≤ now))
  | [], _ => ⟨rfl, rfl⟩
  | x :: L, h => by
    obtain ⟨h1, h2⟩ := List.pairwise_cons.1 h
    rw [List.filter_cons, List.filter_cons, List.takeWhile_cons, List.dropWhile_cons]
    by_cases hx : x.2.1 ≤ now
    · have := sorted_take (now := now) h2
      simp [hx, this.1, this.2]
    · have hall : ∀ y ∈ L, ¬ y.2.1 ≤ now := fun y hy => by
        have := h1 y hy
        unfold ltH at this
        omega
      have e1 : L.filter (fun x => decide (x.2.1 ≤ now)) = [] := by
        rw [List.filter_eq_nil_iff]
        intro y hy
        simpa using hall y hy
      have e2 : L.filter (fun x => !decide (x.2.1 ≤ now)) = L := by
        rw [List.filter_eq_self]
        intro y hy
        simpa using hall y hy
      simp [hx, e1, e2]
theorem dOf_dueS {s : HS} (h : HInv s) (now : Int) : (dOf s).drop (cutD (dOf s) now) = dOf (s.dueS now) := by
  rw [cutD_drop]
  unfold dOf HS.dueS
  rw [drop_key, ordH_filter h.sets, (sorted_take (ordH_sorted h.sets)).2]
theorem dOf_dueL {s : HS} (h : HInv s) (now : Int) : ((dOf s).take (cutD (dOf s) now)).map (·.1) = s.dueL now := by
  rw [cutD_take]
  unfold dOf HS.dueL
  rw [take_key, ordH_filter h.sets, (sorted_take (ordH_sorted h.sets)).1, List.map_map]
  rfl
theorem dOf_cut {s : HS} (h : HInv s) (now : Int) : cutD (dOf s) now = (s.dueL now).length := by
  rw [← dOf_dueL h, List.length_map, List.length_take, Nat.min_eq_left (cutD_le _ _)]
theorem dOf_at {s : HS} (h : HInv s) (n : Int) : atD (dOf s) n = atV s.M n := by
  unfold atD atV dOf
  rw [List.find?_map]
  have e : (ordH s.M).find? ((fun x : Int × Int => x.1 == n) ∘ keyH) = s.M.find? (fun x => x.1 == n) := by
    show (ordH s.M).find? (fun x => x.1 == n) = _
    cases h1 : s.M.find? (fun x => x.1 == n) with
    | none =>
      rw [List.find?_eq_none] at h1 ⊢
      exact fun x hx => h1 x (ordH_mem.1 hx)
    | some x =>
      have hx := List.mem_of_find?_eq_some h1
      have hp := List.find?_some h1
      cases h2 : (ordH s.M).find? (fun x => x.1 == n) with
      | none => exact absurd hp (List.find?_eq_none.1 h2 x (ordH_mem.2 hx))
      | some y =>
        have hy := ordH_mem.1 (List.mem_of_find?_eq_some h2)
        have hq := List.find?_some h2
        rw [id_inj h.ids hy hx (by simp at hp hq; omega)]
  rw [e]
  cases s.M.find? (fun x => x.1 == n) <;> rfl
theorem sameH_dOf (s t : HS) : sameH (ordH s.M) (ordH t.M) = decide (dOf s = dOf t) := rfl
theorem HInv.canS {s : HS} (h : HInv s) (n : Int) : HInv (s.canS n) := h.del n
theorem HInv.dueS {s : HS} (h : HInv s) (now : Int) : HInv (s.dueS now) := h.filter _
theorem setS_c (s : HS) (n t : Int) : (s.setS n t).c ≤ s.c + 1 := by
  unfold HS.setS
  split
  · exact Int.le_refl _
  · exact Int.le_of_lt (Int.lt_add_one_iff.2 (Int.le_refl _))

end Go.Proofs.Ytpaaanjghcloeaa
