
/- metronomelaw18.QueueOnce answers true, whatever the room and the script. -/
import Derived.Test.YtiiafhlckmkcnaaUr
import Derived.Test.YtiiafhlckmkcnaaVspec
import Derived.Deep.CutBlock
import Derived.Deep.CutRange
namespace Go.Proofs.Ytiiafhlckmkcnaa
open Go.RowKit

def boolsV (H : List Bool) : Array Value := (H.map Value.bool).toArray
/-- A queue of one's own, the marks of those who wait to send at block bh, sent less got what is in it. -/
structure OW (w W : World) (u : UB) (v : Value) (N : Int) (s : QS) (bh : Nat) (H : List Bool) (a b : Int) (k : Nat) (room : Int) : Prop where
  q : KQ w W u v N s []
  h : W.heap[bh]? = some (.cells (boolsV H) 29 (0, 0))
  hb : w.heap.size ≤ bh ∧ bh ∉ blkU u v
  m : MarkI s H
  o : OnceI s
  n : (s.L.length : Int) = a - b
  r : 0 ≤ b ∧ b ≤ a ∧ a ≤ k
  rm : s.room = room
section
variable {w W W' : World} {u : UB} {v : Value} {N N' : Int} {s s' : QS} {bh : Nat} {H : List Bool} {a b a' b' : Int} {k k' : Nat} {room : Int}
theorem OW.calm (h : OW w W u v N s bh H a b k room) (hC : Chg [] W W') : OW w W' u v N s bh H a b k room := ⟨h.q.calm hC, hC.blk h.h (by simp), h.hb, h.m, h.o, h.n, h.r, h.rm⟩
/-- A step of the queue, the marks as they were. -/
theorem OW.step {r : Value} {e : Ending} (h : OW w W u v N s bh H a b k room) (hS : StepP u v N' s' r W e W') : ∃ v', e = .returned r ∧ KQ w W' u v' N' s' [] ∧ W'.heap[bh]? = some (.cells (boolsV H) 29 (0, 0)) ∧ (w.heap.size ≤ bh ∧ bh ∉ blkU u v') := by
  have h2 : KQ w W u v N s [] := h.q
  obtain ⟨v', he, hU, hC, hB⟩ := hS
  obtain ⟨v'', he', hK⟩ := h2.step (e := e) ⟨v', he, hU, hC, hB⟩
  have hbh := hC.blk h.h h.hb.2
  refine ⟨v', he, ?_, hbh, h.hb.1, fun hk => ?_⟩
  · obtain ⟨v3, _, hK3⟩ := h2.step (e := e) ⟨v', he, hU, hC, hB⟩
    refine ⟨hU, hK3.c, fun j hj => ?_, by simp⟩
    have hs := h2.c.size
    rcases List.mem_append.1 hj with h1 | h1
    · exact h2.g j (List.mem_append.2 (.inl h1))
    · rcases hB.sub j h1 with h3 | h3
      · exact h2.g j (List.mem_append.2 (.inr h3))
      · omega
  · rcases List.mem_append.1 hk with h1 | h1
    · exact h.hb.2 (List.mem_append.2 (.inl h1))
    · rcases hB.sub _ h1 with h3 | h3
      · exact h.hb.2 (List.mem_append.2 (.inr h3))
      · have := lt_of_blk h.h; omega
/-- A mark. -/
theorem KQ.mark (hq : KQ w W u v N s []) (hh : W.heap[bh]? = some (.cells (boolsV H) 29 (0, 0))) (hb : w.heap.size ≤ bh ∧ bh ∉ blkU u v) (i : Nat) (x : Bool) :
    KQ w (W.setCell ⟨bh, i, none⟩ (.bool x)) u v N s [] ∧ (W.setCell ⟨bh, i, none⟩ (.bool x)).heap[bh]? = some (.cells (boolsV (H.set i x)) 29 (0, 0)) := by
  have hC : Chg [bh] W (W.setCell ⟨bh, i, none⟩ (.bool x)) := (Chg.refl _ _).setCell _ _ (by simp)
  refine ⟨⟨hq.at_.kept hC (fun k hk => by simp at hk; subst hk; exact hb.2), hq.c.trans' hC (fun k hk => by simp at hk; subst hk; exact .inr hb.1), hq.g, by simp⟩, ?_⟩
  rw [blk_setCell hh]
  unfold boolsV
  rw [List.map_set, List.setIfInBounds_toArray]
end
theorem bools_cell {W : World} {bh i : Nat} {H : List Bool} {x : Bool} (h : W.heap[bh]? = some (.cells (boolsV H) 29 (0, 0))) (hx : H[i]? = some x) : W.cell? ⟨bh, i, none⟩ = some (.bool x) :=
  cellB h (by simp [boolsV, hx])

end Go.Proofs.Ytiiafhlckmkcnaa
