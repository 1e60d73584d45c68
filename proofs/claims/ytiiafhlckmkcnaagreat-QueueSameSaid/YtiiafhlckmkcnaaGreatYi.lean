
/- metronomeref18.Same, the plain side. -/
import Derived.Test.YtiiafhlckmkcnaaGreatYh
namespace Go.Proofs.YtiiafhlckmkcnaaGreat
open Go.RowKit

/-- What the first k threads wait to send, the same in both. -/
def QS.heldK (s t : QS) (k : Nat) : Bool := (List.range k).all fun (i : Nat) => !(hasR s.S i) || eqbM (mAt s.M i) (mAt t.M i)
theorem QS.heldK_succ (s t : QS) (k : Nat) : s.heldK t (k + 1) = (s.heldK t k && (!(hasR s.S k) || eqbM (mAt s.M k) (mAt t.M k))) := by
  unfold QS.heldK
  rw [List.range_succ, List.all_append]
  simp
theorem QS.heldK_16 {s : QS} (h : QInv s) (t : QS) : s.heldK t 16 = heldEq s.S s.M t.M := by
  rw [Bool.eq_iff_iff]
  unfold QS.heldK heldEq
  simp only [List.all_eq_true, List.mem_range, Bool.or_eq_true, Bool.not_eq_true']
  constructor
  · intro hk x hx
    have ho := (h.ls.ok x hx).1
    unfold okT at ho
    have h1 := hk x.1.toNat (by omega)
    rw [show ((x.1.toNat : Nat) : Int) = x.1 by omega] at h1
    rcases h1 with h1 | h1
    · rw [hasR_mem.2 ⟨x.2, hx⟩] at h1
      cases h1
    · exact h1
  · intro hS i hi
    cases hr : hasR s.S i with
    | false => exact .inl rfl
    | true =>
      obtain ⟨p, hp⟩ := hasR_mem.1 hr
      exact .inr (hS _ hp)
/-- The first k messages, the same in both. -/
def eqK (l m : WL) (k : Nat) : Bool := (List.range k).all fun (i : Nat) => eqbM (l.getD i (0, 0)) (m.getD i (0, 0))
theorem eqK_all {l m : WL} (h : l.length = m.length) : eqK l m l.length = decide (l = m) := by
  rw [Bool.eq_iff_iff]
  unfold eqK
  simp only [List.all_eq_true, List.mem_range, decide_eq_true_eq]
  constructor
  · intro hk
    refine List.ext_getElem h fun i h1 h2 => ?_
    have h3 := eqbM_iff.1 (hk i h1)
    rw [List.getD_eq_getElem?_getD, List.getD_eq_getElem?_getD, List.getElem?_eq_getElem h1, List.getElem?_eq_getElem h2] at h3
    exact h3
  · rintro rfl i _
    exact eqbM_self _

end Go.Proofs.YtiiafhlckmkcnaaGreat
