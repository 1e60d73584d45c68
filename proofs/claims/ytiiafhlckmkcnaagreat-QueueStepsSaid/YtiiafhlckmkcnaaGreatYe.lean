
/- Layer 18: a queue and the document's, side by side. -/
import Derived.Test.YtiiafhlckmkcnaaGreatYd
import Derived.Test.YtiiafhlckmkcnaaGreatUr
namespace Go.Proofs.YtiiafhlckmkcnaaGreat
open Go.RowKit

theorem UAt.notW {w : World} {u : UB} {v : Value} {N : Int} {s : QS} (h : UAt w u v N s) : ∀ k ∈ blkU u v, NotW w k := by
  intro k hk
  have h1 := h.ls.notW
  have h2 := h.lr.notW
  rcases List.mem_append.1 hk with hk | hk
  · simp only [UB.l, List.mem_cons, List.not_mem_nil, or_false] at hk
    rcases hk with rfl | rfl | rfl | rfl | rfl | rfl
    · exact NotW.of h.head (fun cs fr e => by cases e)
    · exact fun cs fr e => h.held.ne e rfl
    · exact h1.1
    · exact h1.2
    · exact h2.1
    · exact h2.2
  · obtain ⟨cs, hcs⟩ := own_cells h.row k hk
    exact NotW.of hcs (fun cs fr e => by cases e)

/-- A queue and the document's, of the same state. -/
structure TQ (w : World) (u : UB) (v : Value) (N : Int) (rc rr rw : Nat) (vd : Value) (s : QS) : Prop where
  q : UAt w u v N s
  d : DQ w rc rr rw vd s
  ap : ∀ k ∈ blkU u v, k ∉ blkD rc rr rw vd
section
variable {w w1 w2 : World} {u : UB} {v v' : Value} {N N' : Int} {rc rr rw : Nat} {vd vd' : Value} {s s' : QS}
theorem TQ.calm (h : TQ w u v N rc rr rw vd s) (hC : Chg [] w w1) : TQ w1 u v N rc rr rw vd s := ⟨h.q.calm hC, h.d.calm hC, h.ap⟩
/-- Behind a step of the queue the document's is as it was. -/
theorem TQ.stepQ {r : Value} {e : Ending} (h : TQ w u v N rc rr rw vd s) (hS : StepP u v N' s' r w e w1) :
    ∃ v', e = .returned r ∧ UAt w1 u v' N' s' ∧ DQ w1 rc rr rw vd s ∧ (∀ k ∈ blkU u v', k ∉ blkD rc rr rw vd) ∧ Chg (blkU u v) w w1 ∧ (∀ k ∈ blkU u v', k ∈ blkU u v ∨ w.heap.size ≤ k) := by
  obtain ⟨v', he, hU, hC, hB⟩ := hS
  have hsub : ∀ k ∈ blkU u v', k ∈ blkU u v ∨ w.heap.size ≤ k := fun k hk => by
    rcases List.mem_append.1 hk with h1 | h1
    · exact .inl (List.mem_append.2 (.inl h1))
    · rcases hB.sub k h1 with h2 | h2
      · exact .inl (List.mem_append.2 (.inr h2))
      · exact .inr h2
  refine ⟨v', he, hU, h.d.kept hC (fun k hk => ⟨h.ap k hk, h.q.notW k hk⟩), fun k hk hm => ?_, hC, hsub⟩
  rcases hsub k hk with h1 | h1
  · exact h.ap k h1 hm
  · have := h.d.lt k hm; omega
/-- Behind a step of the document's, too, they are side by side again. -/
theorem TQ.stepD {r : Value} {e : Ending} (hU : UAt w1 u v N s') (ap : ∀ k ∈ blkU u v, k ∉ blkD rc rr rw vd) (hS : DStepP rc rr rw vd s' r w1 e w2) :
    ∃ vd', e = .returned r ∧ TQ w2 u v N rc rr rw vd' s' ∧ Chg (blkD rc rr rw vd) w1 w2 ∧ (∀ k ∈ blkD rc rr rw vd', k ∈ blkD rc rr rw vd ∨ w1.heap.size ≤ k) := by
  obtain ⟨vd', he, hD', hC, hB⟩ := hS
  have hsub : ∀ k ∈ blkD rc rr rw vd', k ∈ blkD rc rr rw vd ∨ w1.heap.size ≤ k := fun k hk => by
    rcases List.mem_append.1 hk with h1 | h1
    · exact .inl (List.mem_append.2 (.inl h1))
    · rcases hB k h1 with h2 | h2
      · exact .inl (List.mem_append.2 (.inr h2))
      · exact .inr h2
  refine ⟨vd', he, ⟨hU.kept hC (fun k hk hm => ap k hm hk), hD', fun k hk hm => ?_⟩, hC, hsub⟩
  rcases hsub k hm with h1 | h1
  · exact ap k hk h1
  · have := hU.lt k hk; omega
end

end Go.Proofs.YtiiafhlckmkcnaaGreat
