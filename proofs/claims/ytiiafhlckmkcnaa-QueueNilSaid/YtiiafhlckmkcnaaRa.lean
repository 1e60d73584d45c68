
/- metronomeref09: the document's list, as it lies in memory; may, find, Prio, Same. -/
import Derived.Test.YtiiafhlckmkcnaaWo
namespace Go.Proofs.Ytiiafhlckmkcnaa
open Go.RowKit

/-- The block holds no pairs. -/
def NotW (w : World) (k : Nat) : Prop := ∀ cs fr, w.heap[k]? ≠ some (.cells cs 96 fr)
theorem NotW.of {w : World} {k : Nat} {o : Obj} (h : w.heap[k]? = some o) (ho : ∀ cs fr, o ≠ .cells cs 96 fr) : NotW w k := fun cs fr e => ho cs fr (by rw [h] at e; exact Option.some.inj e)
theorem NotW.ge {w : World} {k : Nat} (h : w.heap.size ≤ k) : NotW w k := fun cs fr e => by
  have := lt_of_blk e
  omega
theorem WAt.notW {w : World} {ab mb : Nat} {N : Int} {L : WL} (h : WAt w ab mb N L) : NotW w ab ∧ NotW w mb := by
  obtain ⟨n, L1, h, rfl, hn⟩ := h
  obtain ⟨M, hM, _⟩ := h.map
  refine ⟨NotW.of h.head (fun cs fr e => by cases e), ?_⟩
  intro cs fr e
  obtain ⟨es, clock, h1, _⟩ := hM
  rw [h1] at e
  cases e
/-- The place of a thread; -1: none. -/
def findL (l : WL) (t : Int) : Int := match l.findIdx? (fun x => x.1 == t) with | none => -1 | some i => i

theorem findL_none {l : WL} {t : Int} (h : hasR l t = false) : findL l t = -1 := by
  have h1 : l.findIdx? (fun x => x.1 == t) = none := List.findIdx?_eq_none_iff.2 (fun x hx => by
    rw [Bool.eq_false_iff]
    intro e
    have e' : x.1 = t := by simpa using e
    have h2 : hasR l t = true := hasR_mem.2 ⟨x.2, by rw [← e']; exact hx⟩
    rw [h] at h2
    cases h2)
  unfold findL
  rw [h1]
theorem findL_some {l : WL} {t : Int} (h : hasR l t = true) : ∃ i : Nat, findL l t = i ∧ i < l.length ∧ l[i]? = some (t, prioR l t) ∧ (∀ j : Nat, j < i → ∀ x, l[j]? = some x → x.1 ≠ t) := by
  induction l with
  | nil => simp [hasR] at h
  | cons x l ih =>
    obtain ⟨k, q⟩ := x
    by_cases hc : k = t
    · subst hc
      refine ⟨0, by simp [findL, List.findIdx?_cons], by simp, by simp [prioR], by omega⟩
    · have hc1 : (k == t) = false := by simpa using hc
      have hc2 : (t == k) = false := by simp; omega
      have h' : hasR l t = true := by unfold hasR at h ⊢; rwa [List.lookup_cons, hc2] at h
      obtain ⟨i, h1, h2, h3, h4⟩ := ih h'
      refine ⟨i + 1, ?_, by simp; omega, ?_, ?_⟩
      · unfold findL at h1 ⊢
        rw [List.findIdx?_cons, hc1]
        cases hf : l.findIdx? (fun x => x.1 == t) with
        | none => rw [hf] at h1; simp only at h1; omega
        | some j => rw [hf] at h1; simp only at h1; simp; omega
      · have : prioR ((k, q) :: l) t = prioR l t := by unfold prioR; rw [List.lookup_cons, hc2]
        rw [this]
        simpa using h3
      · intro j hj y hy
        cases j with
        | zero => simp at hy; subst hy; exact hc
        | succ j => exact h4 j (by omega) y (by simpa using hy)

def mayB (t p : Int) : Bool := decide (0 ≤ t ∧ t < 16 ∧ 1 ≤ p ∧ p ≤ 31)
end Go.Proofs.Ytiiafhlckmkcnaa
