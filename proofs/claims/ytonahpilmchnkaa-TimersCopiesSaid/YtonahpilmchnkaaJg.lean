
/- Timers: plain laws of Due's rounds. -/
import Derived.Test.YtonahpilmchnkaaJspec
namespace Go.Proofs.Ytonahpilmchnkaa

theorem fold_take {α β : Type} (f : β → α → β) (p : β) {l : List α} {j : Nat} {x : α} (h : l[j]? = some x) : (l.take (j + 1)).foldl f p = f ((l.take j).foldl f p) x := by
  have hj := (List.getElem?_eq_some_iff.1 h).1
  have hx : l[j] = x := (List.getElem?_eq_some_iff.1 h).2
  rw [List.take_succ_eq_append_getElem hj, List.foldl_append, hx]
  rfl
theorem due1_L (c now : Int) (p : TS × List Int) (id : Int) (i : Nat) (h0 : 0 ≤ id) (hn : (i : Int) ≠ id) : (TS.due1 c now p id).1.L[i]? = p.1.L[i]? := by
  unfold TS.due1
  split
  · rfl
  · exact List.getElem?_set_ne (by omega)
theorem dueF_L (c now : Int) (l : List Int) (i : Nat) (h0 : ∀ x ∈ l, 0 ≤ x) (hn : (i : Int) ∉ l) : ∀ p : TS × List Int, (l.foldl (TS.due1 c now) p).1.L[i]? = p.1.L[i]? := by
  induction l with
  | nil => intro p; rfl
  | cons x l ih =>
    intro p
    rw [List.foldl_cons, ih (fun y hy => h0 y (List.mem_cons_of_mem _ hy)) (fun hm => hn (List.mem_cons_of_mem _ hm)), due1_L c now p x i (h0 x List.mem_cons_self) (fun e => hn (by rw [e]; exact List.mem_cons_self))]
theorem due1_n (c now : Int) (p : TS × List Int) (id : Int) : (TS.due1 c now p id).1.n = p.1.n := by unfold TS.due1; split <;> rfl
theorem dueF_n (c now : Int) (l : List Int) : ∀ p : TS × List Int, (l.foldl (TS.due1 c now) p).1.n = p.1.n := by
  induction l with
  | nil => intro p; rfl
  | cons x l ih => intro p; rw [List.foldl_cons, ih, due1_n]
theorem due1_len (c now : Int) (p : TS × List Int) (id : Int) : (TS.due1 c now p id).1.L.length = p.1.L.length := by
  unfold TS.due1
  split
  · rfl
  · exact List.length_set
theorem dueF_len (c now : Int) (l : List Int) : ∀ p : TS × List Int, (l.foldl (TS.due1 c now) p).1.L.length = p.1.L.length := by
  induction l with
  | nil => intro p; rfl
  | cons x l ih => intro p; rw [List.foldl_cons, ih, due1_len]
theorem setS_le (h : HS) (n t : Int) : (h.setS n t).c ≤ h.c + 1 := by
  unfold HS.setS
  split
  · exact Int.le_refl _
  · exact Int.le_of_lt (Int.lt_add_one_iff.2 (Int.le_refl _))
theorem dueW_le (e : TE) (now i : Int) (h : HS) : (e.dueW now i h).c ≤ h.c + 1 := by
  unfold TE.dueW
  split
  · exact setS_le _ _ _
  · exact Int.le_of_lt (Int.lt_add_one_iff.2 (Int.le_refl _))
theorem due1_c (c now : Int) (p : TS × List Int) (id k : Int) : ((TS.due1 c now p id).1.W k).c ≤ (p.1.W k).c + 1 := by
  unfold TS.due1
  split
  · exact Int.le_of_lt (Int.lt_add_one_iff.2 (Int.le_refl _))
  · by_cases h : k = c
    · subst h
      show (updW _ k _ k).c ≤ _
      rw [updW_same]
      exact dueW_le _ _ _ _
    · show (updW _ c _ k).c ≤ _
      rw [updW_other h]
      exact Int.le_of_lt (Int.lt_add_one_iff.2 (Int.le_refl _))
theorem dueF_c (c now : Int) (l : List Int) (k : Int) : ∀ p : TS × List Int, ((l.foldl (TS.due1 c now) p).1.W k).c ≤ (p.1.W k).c + l.length := by
  induction l with
  | nil => intro p; simp
  | cons x l ih =>
    intro p
    rw [List.foldl_cons]
    have h1 := ih (TS.due1 c now p x)
    have h2 := due1_c c now p x k
    rw [List.length_cons]
    omega
theorem dueF_out_le (c now : Int) (l : List Int) : ∀ p : TS × List Int, (l.foldl (TS.due1 c now) p).2.length ≤ p.2.length + l.length := by
  induction l with
  | nil => intro p; simp
  | cons x l ih =>
    intro p
    rw [List.foldl_cons]
    have h1 := ih (TS.due1 c now p x)
    have h2 : (TS.due1 c now p x).2.length ≤ p.2.length + 1 := by
      unfold TS.due1
      split
      · omega
      · split
        · exact Nat.le_succ _
        · simp
    rw [List.length_cons]
    omega

/-- What a due one is. -/
theorem TInv.due {s : TS} (h : TInv s) {c : Int} (hc : isC c) {now : Int} {j : Nat} {id : Int} (hj : ((s.W c).dueL now)[j]? = some id) :
    ∃ (i : Nat) (e : TE), id = (i : Int) ∧ i < s.n ∧ s.L[i]? = some e ∧ e.armed = true ∧ e.clock = c ∧ 0 ≤ e.at_ ∧ e.at_ ≤ now ∧ okAt e.iv := by
  unfold HS.dueL at hj
  rw [List.getElem?_map, Option.map_eq_some_iff] at hj
  obtain ⟨x, hx, rfl⟩ := hj
  have hm := (ordH_perm _).mem_iff.1 (List.mem_of_getElem? hx)
  obtain ⟨hM, hle⟩ := List.mem_filter.1 hm
  obtain ⟨i, e, h1, h2, h3, h4, h5⟩ := h.has c hc x hM
  obtain ⟨h6, h7, h8, h9⟩ := h.on i e h2 h3
  exact ⟨i, e, h1, h6, h2, h3, h4, h8.1, by rw [h5]; simpa using hle, h9⟩

end Go.Proofs.Ytonahpilmchnkaa
