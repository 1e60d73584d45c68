
/- Messages in the order of their priorities, plain. No program in sight. -/
import Derived.Test.YtiiafhlckmkcnaaWspec
namespace Go.Proofs.Ytiiafhlckmkcnaa

theorem flatMap_cong {α β : Type} {f g : α → List β} : ∀ {l : List α}, (∀ a ∈ l, f a = g a) → l.flatMap f = l.flatMap g
  | [], _ => rfl
  | a :: l, h => by
    rw [List.flatMap_cons, List.flatMap_cons, h a (by simp), flatMap_cong fun b hb => h b (by simp [hb])]
theorem filter_two {α : Type} (q : α → Bool) : ∀ (l : List α), (l.filter q).length + (l.filter fun x => !q x).length = l.length
  | [] => rfl
  | x :: l => by
    have := filter_two q l
    by_cases h : q x = true
    · simp [h]; omega
    · simp [h]; omega

/-! ### messages by their priorities -/
def ordG (ps : List Int) (L : WL) : WL := ps.flatMap fun p => L.filter fun x => x.2 == p
def pri32 : List Int := (List.range 32).map fun (i : Nat) => 31 - (i : Int)
/-- The messages in their order. -/
def ordM (L : WL) : WL := (List.range 32).flatMap fun (i : Nat) => L.filter fun x => x.2 == 31 - (i : Int)
theorem ordM_G (L : WL) : ordM L = ordG pri32 L := by
  unfold ordM ordG pri32
  rw [List.flatMap_map]
theorem ordG_cons (p : Int) (ps : List Int) (L : WL) : ordG (p :: ps) L = L.filter (fun x => x.2 == p) ++ ordG ps L := rfl
theorem ordG_mem {ps : List Int} {L : WL} {x : Int × Int} : x ∈ ordG ps L ↔ x ∈ L ∧ x.2 ∈ ps := by
  unfold ordG
  simp only [List.mem_flatMap, List.mem_filter, beq_iff_eq]
  constructor
  · rintro ⟨p, hp, hx, rfl⟩; exact ⟨hx, hp⟩
  · rintro ⟨hx, hp⟩; exact ⟨_, hp, hx, rfl⟩
theorem pri32_lt : pri32.Pairwise (fun a b => b < a) := by decide
theorem pri32_mem {p : Int} : p ∈ pri32 ↔ 0 ≤ p ∧ p ≤ 31 := by
  unfold pri32
  simp only [List.mem_map, List.mem_range]
  constructor
  · rintro ⟨i, hi, rfl⟩; omega
  · rintro ⟨h0, h1⟩; exact ⟨(31 - p).toNat, by omega, by omega⟩
theorem ordM_mem {L : WL} {x : Int × Int} : x ∈ ordM L ↔ x ∈ L ∧ 0 ≤ x.2 ∧ x.2 ≤ 31 := by rw [ordM_G, ordG_mem, pri32_mem]

/-- A message laid where it belongs: ahead of the first of a lower priority. -/
def insM (l : WL) (m : Int × Int) : WL := l.takeWhile (fun x => decide (m.2 ≤ x.2)) ++ m :: l.dropWhile (fun x => decide (m.2 ≤ x.2))
theorem takeW_all {α : Type} {q : α → Bool} : ∀ {a b : List α}, (∀ x ∈ a, q x = true) → (a ++ b).takeWhile q = a ++ b.takeWhile q ∧ (a ++ b).dropWhile q = b.dropWhile q
  | [], _, _ => ⟨rfl, rfl⟩
  | x :: a, b, h => by
    obtain ⟨h1, h2⟩ := takeW_all (a := a) (b := b) (fun y hy => h y (by simp [hy]))
    have hx := h x (by simp)
    simp [hx, h1, h2]
theorem takeW_none {α : Type} {q : α → Bool} {b : List α} (h : ∀ x ∈ b, q x = false) : b.takeWhile q = [] ∧ b.dropWhile q = b := by
  cases b with
  | nil => exact ⟨rfl, rfl⟩
  | cons x b => have hx := h x (by simp); simp [hx]
theorem insM_all {a b : WL} {m : Int × Int} (h : ∀ x ∈ a, m.2 ≤ x.2) : insM (a ++ b) m = a ++ insM b m := by
  obtain ⟨h1, h2⟩ := takeW_all (q := fun x : Int × Int => decide (m.2 ≤ x.2)) (a := a) (b := b) (fun x hx => by simpa using h x hx)
  unfold insM
  rw [h1, h2, List.append_assoc]
theorem insM_none {b : WL} {m : Int × Int} (h : ∀ x ∈ b, x.2 < m.2) : insM b m = m :: b := by
  obtain ⟨h1, h2⟩ := takeW_none (q := fun x : Int × Int => decide (m.2 ≤ x.2)) (b := b) (fun x hx => by simpa using h x hx)
  unfold insM
  rw [h1, h2]
  rfl
theorem ordG_put {m : Int × Int} : ∀ {ps : List Int} {L : WL}, ps.Pairwise (fun a b => b < a) → m.2 ∈ ps → ordG ps (L ++ [m]) = insM (ordG ps L) m
  | [], _, _, h => by cases h
  | p :: ps, L, hp, hm => by
    obtain ⟨hp1, hp2⟩ := List.pairwise_cons.1 hp
    rw [ordG_cons, ordG_cons, List.filter_append]
    rw [insM_all (fun x hx => by
      have h1 := (List.mem_filter.1 hx).2
      have h1 : x.2 = p := by simpa using h1
      rcases List.mem_cons.1 hm with h | h
      · omega
      · have := hp1 _ h; omega)]
    by_cases h : m.2 = p
    · rw [insM_none (fun x hx => by rw [h]; exact hp1 _ (ordG_mem.1 hx).2)]
      have e : ordG ps (L ++ [m]) = ordG ps L := by
        unfold ordG
        apply flatMap_cong
        intro p' hp'
        have := hp1 p' hp'
        rw [List.filter_append, List.filter_cons_of_neg (by simp; omega), List.filter_nil, List.append_nil]
      rw [e, List.filter_cons_of_pos (by simp [h]), List.filter_nil, List.append_assoc]
      rfl
    · have hm2 : m.2 ∈ ps := by rcases List.mem_cons.1 hm with h1 | h1; exact absurd h1 h; exact h1
      rw [ordG_put hp2 hm2, List.filter_cons_of_neg (by simpa using h), List.filter_nil, List.append_nil]
theorem ordM_put {L : WL} {m : Int × Int} (h : 0 ≤ m.2 ∧ m.2 ≤ 31) : ordM (L ++ [m]) = insM (ordM L) m := by
  rw [ordM_G, ordM_G, ordG_put pri32_lt (pri32_mem.2 h)]

/-- The first message gone. -/
def delM (L : WL) (p : Int) : WL := L.eraseP fun x => x.2 == p
theorem filter_eraseP {q r : Int × Int → Bool} : ∀ {L : WL}, (∀ x, q x = true → r x = false) → (L.eraseP q).filter r = L.filter r
  | [], _ => rfl
  | x :: L, h => by
    by_cases hx : q x = true
    · simp [hx, h x hx]
    · simp only [hx, List.eraseP_cons_of_neg, Bool.not_eq_true]
      by_cases hr : r x = true
      · simp [hr, filter_eraseP h]
      · simp [hr, filter_eraseP h]
theorem filter_eraseP_self {q : Int × Int → Bool} : ∀ {L : WL}, (L.eraseP q).filter q = (L.filter q).tail
  | [] => rfl
  | x :: L => by
    by_cases hx : q x = true
    · simp [hx]
    · simp only [hx, List.eraseP_cons_of_neg, Bool.not_eq_true, List.filter_cons_of_neg]
      exact filter_eraseP_self
theorem ordG_del {x : Int × Int} {r : WL} : ∀ {ps : List Int} {L : WL}, ps.Pairwise (fun a b => b < a) → ordG ps L = x :: r → ordG ps (delM L x.2) = r
  | [], _, _, h => by cases h
  | p :: ps, L, hp, h => by
    obtain ⟨hp1, hp2⟩ := List.pairwise_cons.1 hp
    rw [ordG_cons] at h
    cases hf : L.filter (fun y => y.2 == p) with
    | nil =>
      rw [hf, List.nil_append] at h
      have hx : x.2 ∈ ps := (ordG_mem.1 (show x ∈ ordG ps L by rw [h]; simp)).2
      have := hp1 _ hx
      rw [ordG_cons, ordG_del hp2 h]
      unfold delM
      rw [filter_eraseP (fun y hy => by simp at hy; simp; omega), hf, List.nil_append]
    | cons y t =>
      rw [hf] at h
      have hy : y ∈ L.filter (fun z => z.2 == p) := by rw [hf]; simp
      have hyp : y.2 = p := by simpa using (List.mem_filter.1 hy).2
      simp only [List.cons_append, List.cons.injEq] at h
      obtain ⟨rfl, rfl⟩ := h
      rw [ordG_cons, hyp]
      unfold delM
      rw [filter_eraseP_self, hf, List.tail_cons]
      congr 1
      unfold ordG
      apply flatMap_cong
      intro p' hp'
      have := hp1 p' hp'
      exact filter_eraseP (fun z hz => by simp at hz; simp; omega)
theorem ordM_del {L : WL} {x : Int × Int} {r : WL} (h : ordM L = x :: r) : ordM (delM L x.2) = r := by
  rw [ordM_G] at h ⊢
  exact ordG_del pri32_lt h

theorem ordG_perm : ∀ {ps : List Int} {L : WL}, ps.Pairwise (fun a b => b < a) → (∀ x ∈ L, x.2 ∈ ps) → (ordG ps L).length = L.length
  | [], L, _, h => by
    cases L with
    | nil => rfl
    | cons x L => exact absurd (h x (by simp)) (by simp)
  | p :: ps, L, hp, h => by
    obtain ⟨hp1, hp2⟩ := List.pairwise_cons.1 hp
    rw [ordG_cons, List.length_append]
    have e : ordG ps L = ordG ps (L.filter fun x => !(x.2 == p)) := by
      unfold ordG
      apply flatMap_cong
      intro p' hp'
      have := hp1 p' hp'
      rw [List.filter_filter]
      apply List.filter_congr
      intro x _
      by_cases hx : x.2 = p'
      · have : ¬ p' = p := by omega
        simp [hx, this]
      · simp [hx]
    rw [e, ordG_perm hp2 (fun x hx => by
      obtain ⟨h1, h2⟩ := List.mem_filter.1 hx
      rcases List.mem_cons.1 (h x h1) with h3 | h3
      · simp [h3] at h2
      · exact h3)]
    have := filter_two (fun x : Int × Int => x.2 == p) L
    omega
def MsgOk (L : WL) : Prop := ∀ x ∈ L, 0 ≤ x.2 ∧ x.2 ≤ 31
theorem ordM_len {L : WL} (h : MsgOk L) : (ordM L).length = L.length := by
  rw [ordM_G]
  exact ordG_perm pri32_lt (fun x hx => pri32_mem.2 (h x hx))
theorem MsgOk.put {L : WL} {m : Int × Int} (h : MsgOk L) (hm : 0 ≤ m.2 ∧ m.2 ≤ 31) : MsgOk (L ++ [m]) := fun x hx => by
  rcases List.mem_append.1 hx with h1 | h1
  · exact h x h1
  · simp at h1; subst h1; exact hm
theorem MsgOk.del {L : WL} (h : MsgOk L) (p : Int) : MsgOk (delM L p) := fun x hx => h x (List.mem_of_mem_eraseP hx)

end Go.Proofs.Ytiiafhlckmkcnaa
