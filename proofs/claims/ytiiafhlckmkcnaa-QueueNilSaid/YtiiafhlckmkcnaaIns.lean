
/- Lists of ints in memory, only read; metronomeref09.SameInts. -/
import Derived.Test.YtiiafhlckmkcnaaWj
namespace Go.Proofs.Ytiiafhlckmkcnaa
open Go.RowKit

/-- The value is a slice that reads as ts. -/
def IsInts (w : World) (v : Value) (ts : List Int) : Prop :=
  (ts = [] ∧ ∃ a cap, v = .slice a 0 cap) ∨ ∃ b o cap, v = .slice (some ⟨b, o, none⟩) ts.length cap ∧ ∀ j t, ts[j]? = some t → w.cell? ⟨b, o + j, none⟩ = some (.int .i64 t)

theorem IsInts.of_own {w : World} {B : Nat} {e : TypeId} {v : Value} {ts : List Int} (h : w.ownsRow B e 1 v ts.length (ts.map (Value.int .i64))) : IsInts w v ts := by
  by_cases hn : ts.length = 0
  · have : ts = [] := List.eq_nil_of_length_eq_zero hn
    subst this
    obtain ⟨a, cap, rfl⟩ := own_none h
    exact .inl ⟨rfl, a, cap, rfl⟩
  · obtain ⟨g, cap, rfl, _, _, hc⟩ := own_some h hn
    exact .inr ⟨g, 0, cap, rfl, fun j t hj => by rw [Nat.zero_add]; exact hc j _ (by rw [List.getElem?_map, hj]; rfl)⟩
theorem IsInts.of_blk {w : World} {b cap : Nat} {T : TypeId} {fr : Nat × Nat} {ts : List Int} (h : w.heap[b]? = some (.cells (ts.map (Value.int .i64)).toArray T fr)) : IsInts w (.slice (some ⟨b, 0, none⟩) ts.length cap) ts :=
  .inr ⟨b, 0, cap, rfl, fun j t hj => by rw [Nat.zero_add]; exact cellB h (by simp [hj])⟩
theorem IsInts.slice {w : World} {v : Value} {ts : List Int} (h : IsInts w v ts) : ∃ a cap, v = .slice a ts.length cap := by
  rcases h with ⟨rfl, a, cap, rfl⟩ | ⟨b, o, cap, rfl, _⟩
  · exact ⟨a, cap, rfl⟩
  · exact ⟨_, cap, rfl⟩
theorem IsInts.addr {w : World} {v : Value} {ts : List Int} (h : IsInts w v ts) (hn : ts ≠ []) : ∃ b o cap, v = .slice (some ⟨b, o, none⟩) ts.length cap ∧ ∀ j t, ts[j]? = some t → w.cell? ⟨b, o + j, none⟩ = some (.int .i64 t) := by
  rcases h with ⟨rfl, _⟩ | h
  · exact absurd rfl hn
  · exact h

end Go.Proofs.Ytiiafhlckmkcnaa
