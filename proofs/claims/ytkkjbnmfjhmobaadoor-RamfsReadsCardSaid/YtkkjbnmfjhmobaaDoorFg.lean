
/- Rows of one's own: what they are made of. No program in sight. -/
import Derived.Test.YtkkjbnmfjhmobaaDoorRng
namespace Go.Proofs.YtkkjbnmfjhmobaaDoor
open Go.RowKit

section
variable {w : World} {B : Nat} {e : TypeId} {size : Nat} {v : Value} {n : Nat} {xs : List Value}
theorem own_cells (h : w.ownsRow B e size v n xs) : ∀ k ∈ v.ownBlock.toList, ∃ cs, w.heap[k]? = some (.cells cs e (0, 0)) := by
  intro k hk
  rcases h.2 with ⟨rfl, _⟩ | ⟨g, cap, cur, rfl, h4, h5, h6⟩
  · simp [Value.ownBlock] at hk
  · simp [Value.ownBlock] at hk
    subst hk
    exact ⟨cur, h5⟩
theorem own_slice (h : w.ownsRow B e size v n xs) : ∃ a cap, v = .slice a n cap := by
  rcases h.2 with ⟨h1, h2⟩ | ⟨g, cap, cur, rfl, _⟩
  · exact ⟨none, 0, by rw [h1, h2]⟩
  · exact ⟨_, _, rfl⟩
theorem own_take {cur : Array Value} {m : Nat} (h : cur.toList.take m = xs) : ∀ (j : Nat) (u : Value), xs[j]? = some u → cur[j]? = some u := fun j u hj => by
  rw [← h, List.getElem?_take] at hj
  split at hj
  · simpa using hj
  · cases hj
theorem own_blk (h : w.ownsRow B e size v n xs) (hn : n ≠ 0) : ∃ g cap cur, v = .slice (some ⟨g, 0, none⟩) n cap ∧ B ≤ g ∧ w.heap[g]? = some (.cells cur e (0, 0)) ∧ n ≤ cap ∧ cap ≤ maxLen ∧ cur.size = cap * size ∧ cur.toList.take (n * size) = xs := by
  rcases h.2 with ⟨_, h2⟩ | h
  · exact absurd h2 hn
  · exact h
end
theorem cells_ne {w : World} {a b : Nat} {cs ds : Array Value} {T U : TypeId} {fr gr : Nat × Nat} (ha : w.heap[a]? = some (.cells cs T fr)) (hb : w.heap[b]? = some (.cells ds U gr)) (h : T ≠ U) : a ≠ b := by
  rintro rfl
  rw [ha] at hb
  injection hb with hb
  injection hb with _ h2 _
  exact h h2

end Go.Proofs.YtkkjbnmfjhmobaaDoor
