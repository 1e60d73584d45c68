
/- metronomeref19: Due's choice, plain. -/
import Derived.Test.YtonahpilmchnkaaJw
namespace Go.Proofs.Ytonahpilmchnkaa
open Go.RowKit

def remT (s : TS) (c now : Int) (q i : Nat) : Prop := (i : Int) ∈ (s.W c).dueL now ∧ (i : Int) ∉ ((s.W c).dueL now).take q
def bestT (s : TS) (Z : List Int) (c now : Int) (q i : Nat) (k : Int) : Prop :=
  (k = -1 ∧ ∀ j, j < i → ¬ remT s c now q j) ∨ (∃ kk : Nat, k = (kk : Int) ∧ kk < i ∧ remT s c now q kk ∧ ∀ j, j < i → remT s c now q j → j = kk ∨ lessT s Z kk j)
theorem lessT.trans {s : TS} {Z : List Int} {i j k : Nat} (h1 : lessT s Z i j) (h2 : lessT s Z j k) : lessT s Z i k := by
  obtain ⟨ei, ej, zi, zj, a1, a2, a3, a4, a5⟩ := h1
  obtain ⟨ej', ek, zj', zk, b1, b2, b3, b4, b5⟩ := h2
  rw [a2] at b1
  cases b1
  rw [a4] at b3
  cases b3
  exact ⟨ei, ek, zi, zk, a1, b2, a3, b4, by omega⟩
theorem lessT.asymm {s : TS} {Z : List Int} {i j : Nat} (h1 : lessT s Z i j) (h2 : lessT s Z j i) : False := by
  obtain ⟨ei, ej, zi, zj, a1, a2, a3, a4, a5⟩ := h1
  obtain ⟨ej', ek, zj', zk, b1, b2, b3, b4, b5⟩ := h2
  rw [a2] at b1
  cases b1
  rw [a4] at b3
  cases b3
  rw [a1] at b2
  cases b2
  rw [a3] at b4
  cases b4
  omega
theorem lessT.total {s : TS} (h : TInv s) {Z : List Int} {nw : Int} (hL : LinkT s Z nw) {c : Int} (hc : isC c) (now : Int) {i j : Nat} (hi : (i : Int) ∈ (s.W c).dueL now) (hj : (j : Int) ∈ (s.W c).dueL now) (hn : i ≠ j) : lessT s Z i j ∨ lessT s Z j i := by
  obtain ⟨a, ha⟩ := List.getElem?_of_mem hi
  obtain ⟨b, hb⟩ := List.getElem?_of_mem hj
  rcases Nat.lt_trichotomy a b with h1 | h1 | h1
  · exact .inl (due_sorted h hL hc now h1 ha hb)
  · subst h1
    rw [ha] at hb
    cases hb
    exact absurd rfl hn
  · exact .inr (due_sorted h hL hc now h1 hb ha)
theorem not_take {l : List Int} {q a : Nat} {x : Int} (hn : l.Nodup) (ha : l[a]? = some x) : x ∉ l.take q ↔ q ≤ a := by
  have hla := List.getElem?_eq_some_iff.1 ha
  constructor
  · intro h
    by_cases hq : q ≤ a
    · exact hq
    · exact absurd (List.mem_take_iff_getElem.2 ⟨a, by have := hla.1; omega, hla.2⟩) h
  · intro h hm
    obtain ⟨b, hb1, hb2⟩ := List.mem_take_iff_getElem.1 hm
    have := (List.getElem_inj hn).1 (hb2.trans hla.2.symm)
    omega
theorem bestT.skip {s : TS} {Z : List Int} {c now : Int} {q i : Nat} {k : Int} (h : bestT s Z c now q i k) (hn : ¬ remT s c now q i) : bestT s Z c now q (i + 1) k := by
  rcases h with ⟨h1, h2⟩ | ⟨kk, h1, h2, h3, h4⟩
  · refine .inl ⟨h1, fun j hj => ?_⟩
    by_cases e : j = i
    · subst e; exact hn
    · exact h2 j (by omega)
  · refine .inr ⟨kk, h1, by omega, h3, fun j hj hr => ?_⟩
    by_cases e : j = i
    · subst e; exact absurd hr hn
    · exact h4 j (by omega) hr
theorem bestT.first {s : TS} {Z : List Int} {c now : Int} {q i : Nat} {k : Int} (h : bestT s Z c now q i k) (hk : k < 0) (hr : remT s c now q i) : bestT s Z c now q (i + 1) i := by
  rcases h with ⟨h1, h2⟩ | ⟨kk, h1, _⟩
  · refine .inr ⟨i, rfl, by omega, hr, fun j hj hrj => ?_⟩
    by_cases e : j = i
    · exact .inl e
    · exact absurd hrj (h2 j (by omega))
  · omega
theorem bestT.take {s : TS} {Z : List Int} {c now : Int} {q i kk : Nat} (h : bestT s Z c now q i kk) (hr : remT s c now q i) (hl : lessT s Z i kk) : bestT s Z c now q (i + 1) i := by
  rcases h with ⟨h1, _⟩ | ⟨k2, h1, h2, h3, h4⟩
  · omega
  · have : k2 = kk := by omega
    subst this
    refine .inr ⟨i, rfl, by omega, hr, fun j hj hrj => ?_⟩
    by_cases e : j = i
    · exact .inl e
    · rcases h4 j (by omega) hrj with rfl | h5
      · exact .inr hl
      · exact .inr (hl.trans h5)
theorem bestT.keep {s : TS} (hI : TInv s) {Z : List Int} {nw : Int} (hL : LinkT s Z nw) {c now : Int} (hc : isC c) {q i kk : Nat} (h : bestT s Z c now q i kk) (hr : remT s c now q i) (hl : ¬ lessT s Z i kk) : bestT s Z c now q (i + 1) kk := by
  rcases h with ⟨h1, _⟩ | ⟨k2, h1, h2, h3, h4⟩
  · omega
  · have : k2 = kk := by omega
    subst this
    refine .inr ⟨k2, rfl, by omega, h3, fun j hj hrj => ?_⟩
    by_cases e : j = i
    · subst e
      exact .inr ((lessT.total hI hL hc now hr.1 h3.1 (by omega)).resolve_left hl)
    · exact h4 j (by omega) hrj
theorem bestT.done {s : TS} (hI : TInv s) {Z : List Int} {nw : Int} (hL : LinkT s Z nw) {c now : Int} (hc : isC c) {q : Nat} {k : Int} (h : bestT s Z c now q s.n k) :
    (k = -1 ∧ ((s.W c).dueL now).length ≤ q) ∨ (∃ kk : Nat, k = (kk : Int) ∧ kk < s.n ∧ ((s.W c).dueL now)[q]? = some (kk : Int)) := by
  have hnod : ((s.W c).dueL now).Nodup := ord_idsK (hI.wh c hc) _
  have hat : ∀ j : Nat, ∀ a, ((s.W c).dueL now)[a]? = some (j : Int) → j < s.n := fun j a ha => by
    obtain ⟨e, _, h2, _⟩ := (due_mem hI hc now j).1 (List.mem_of_getElem? ha)
    exact h2
  have hnat : ∀ a x, ((s.W c).dueL now)[a]? = some x → ∃ j : Nat, x = (j : Int) := fun a x ha => by
    obtain ⟨i, _, h1, _⟩ := hI.due hc ha
    exact ⟨i, h1⟩
  rcases h with ⟨h1, h2⟩ | ⟨kk, h1, h2, h3, h4⟩
  · refine .inl ⟨h1, ?_⟩
    by_cases hq : ((s.W c).dueL now).length ≤ q
    · exact hq
    · obtain ⟨x, hx⟩ : ∃ x, ((s.W c).dueL now)[q]? = some x := ⟨_, List.getElem?_eq_getElem (by omega)⟩
      obtain ⟨j, rfl⟩ := hnat q x hx
      exact absurd ⟨List.mem_of_getElem? hx, (not_take hnod hx).2 (Nat.le_refl _)⟩ (h2 j (hat j q hx))
  · refine .inr ⟨kk, h1, h2, ?_⟩
    obtain ⟨a, ha⟩ := List.getElem?_of_mem h3.1
    have hqa := (not_take hnod ha).1 h3.2
    by_cases e : q = a
    · rw [e]; exact ha
    · obtain ⟨x, hx⟩ : ∃ x, ((s.W c).dueL now)[q]? = some x := ⟨_, List.getElem?_eq_getElem (by have := (List.getElem?_eq_some_iff.1 ha).1; omega)⟩
      obtain ⟨j, rfl⟩ := hnat q x hx
      have hls := due_sorted hI hL hc now (show q < a by omega) hx ha
      rcases h4 j (hat j q hx) ⟨List.mem_of_getElem? hx, (not_take hnod hx).2 (Nat.le_refl _)⟩ with rfl | h5
      · exact (hls.asymm hls).elim
      · exact (hls.asymm h5).elim

/-- The marks. -/
def marksT (l : List Int) (q : Nat) : List Bool := (List.range 8).map fun i : Nat => decide ((i : Int) ∈ l.take q)
theorem marksT_zero (l : List Int) : marksT l 0 = List.replicate 8 false := by
  unfold marksT
  simp only [List.take_zero, List.not_mem_nil, decide_false]
  rfl
theorem marksT_get (l : List Int) (q : Nat) {i : Nat} (hi : i < 8) : (marksT l q)[i]? = some (decide ((i : Int) ∈ l.take q)) := by
  unfold marksT
  rw [List.getElem?_map, List.getElem?_range hi]
  rfl
theorem marksT_len (l : List Int) (q : Nat) : (marksT l q).length = 8 := by simp [marksT]
theorem marksT_set {l : List Int} {q k : Nat} (h : l[q]? = some (k : Int)) : (marksT l q).set k true = marksT l (q + 1) := by
  apply List.ext_getElem?
  intro j
  by_cases hj : j < 8
  · rw [marksT_get l (q + 1) hj]
    by_cases e : k = j
    · subst e
      rw [List.getElem?_set_self (by rw [marksT_len]; exact hj)]
      congr 1
      refine (decide_eq_true ?_).symm
      rw [List.take_add_one, h]
      simp
    · rw [List.getElem?_set_ne e, marksT_get l q hj]
      congr 1
      refine decide_eq_decide.2 ?_
      rw [List.take_add_one, h]
      simp
      omega
  · rw [List.getElem?_eq_none (by rw [List.length_set, marksT_len]; omega), List.getElem?_eq_none (by rw [marksT_len]; omega)]

end Go.Proofs.Ytonahpilmchnkaa
