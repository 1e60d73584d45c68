
/- A queue of one's own, and what calls passed, in blocks of their own. -/
import Derived.Test.YtiiafhlckmkcnaaGreatUq
namespace Go.Proofs.YtiiafhlckmkcnaaGreat
open Go.RowKit

def pdB (p : PD) : Obj := .cells #[.bool p.done, .int .i64 p.v, .int .i64 p.p, .int .i64 p.other] 58 (0, 0)
/-- A queue of one's own, and what calls passed, in blocks of their own. -/
structure KQ (w w' : World) (u : UB) (v : Value) (N : Int) (s : QS) (X : List (Nat × PD)) : Prop where
  at_ : UAt w' u v N s
  c : Chg [] w w'
  g : ∀ k ∈ blkU u v, w.heap.size ≤ k
  x : ∀ b p, (b, p) ∈ X → w'.heap[b]? = some (pdB p) ∧ w.heap.size ≤ b ∧ b ∉ blkU u v
section
variable {w w1 w2 : World} {u : UB} {v : Value} {N N' : Int} {s s' : QS} {X : List (Nat × PD)}
theorem KQ.calm (h : KQ w w1 u v N s X) (hC : Chg [] w1 w2) : KQ w w2 u v N s X := ⟨h.at_.calm hC, h.c.trans hC, h.g, fun b p hm => ⟨hC.blk (h.x b p hm).1 (by simp), (h.x b p hm).2⟩⟩
theorem KQ.step {r : Value} {e : Ending} (h : KQ w w1 u v N s X) (hS : StepP u v N' s' r w1 e w2) : ∃ v', e = .returned r ∧ KQ w w2 u v' N' s' X := by
  obtain ⟨v', he, hU, hC, hB⟩ := hS
  have hs := h.c.size
  have hsub : ∀ k ∈ blkU u v', k ∈ blkU u v ∨ w1.heap.size ≤ k := fun k hk => by
    rcases List.mem_append.1 hk with h1 | h1
    · exact .inl (List.mem_append.2 (.inl h1))
    · rcases hB.sub k h1 with h2 | h2
      · exact .inl (List.mem_append.2 (.inr h2))
      · exact .inr h2
  refine ⟨v', he, hU, h.c.trans' hC (fun k hk => .inr (h.g k hk)), fun k hk => ?_, fun b p hm => ?_⟩
  · rcases hsub k hk with h1 | h1
    · exact h.g k h1
    · omega
  · obtain ⟨h1, h2, h3⟩ := h.x b p hm
    refine ⟨hC.blk h1 h3, h2, fun hk => ?_⟩
    rcases hsub b hk with h4 | h4
    · exact h3 h4
    · have := lt_of_blk h1; omega
theorem KQ.box (h : KQ w w1 u v N s X) (p : PD) : KQ w (w1.alloc (pdB p)) u v N s ((w1.heap.size, p) :: X) := by
  have hC : Chg [] w1 (w1.alloc (pdB p)) := (Chg.refl _ _).alloc _
  have k := h.calm hC
  refine ⟨k.at_, k.c, k.g, fun b q hm => ?_⟩
  rcases List.mem_cons.1 hm with e | hm
  · cases e
    exact ⟨heap_alloc_eq w1 _, h.c.size, fun hk => by have := h.at_.lt _ hk; omega⟩
  · exact k.x b q hm
end

end Go.Proofs.YtiiafhlckmkcnaaGreat
