
/- An argument that is a slice of structs whose fields are all ints, opened to its numbers. -/
import Derived.Test.YtkkjbnmfjhmobaaDoorRows
import Derived.WalkKit
import Derived.ProofKit
import Derived.Deep.Slices
import Derived.Deep.Fields
import Derived.ChangeSame
namespace Go.Proofs.YtkkjbnmfjhmobaaDoor
open Go.ChangeShapes Go.WideShapes Go.Deep
section
variable {H : Type} {enc : TypeId × Value → H} {P : Program} {w : World} {base : Nat} {spare : Nat → Bool} {held : Bool}

theorem int_cell {n : Nat} {t : TypeId} {k : IntKind} {v : Value} {y : DataW H × List MemPlace} (ht : P.underlying t = some (.int k)) (h : DataW.trod enc P w base spare held n t [v] = some y) : ∃ z : Int, v = .int k z := by
  obtain ⟨a, e0, _, _⟩ := DataW.trod_int ht h
  exact ⟨a, by simpa using e0⟩

theorem open_rows {t e : TypeId} {fs : Array Field} {fuel : Nat} {cs : List Value} {x : DataW H × List MemPlace} (ht : P.underlying t = some (.slice e)) (he : P.underlying e = some (.struct fs))
    (hone : oneCellFields P fs = true) (hC : P.cellsOf e = fs.size) (hint : ∀ (j : Nat) (f : Field), fs[j]? = some f → P.underlying f.type = some (.int .i64)) (h : DataW.trod enc P w base spare held fuel t cs = some x) :
    cs = [.slice none 0 0] ∨ ∃ (a : Addr) (len cap : Nat), cs = [.slice (some a) len cap] ∧ len ≤ cap ∧ cap ≤ maxLen ∧
      ∀ i, i < len → ∃ r : Nat → Int, ∀ j, j < fs.size → w.cell? (a.add (i * fs.size + j)) = some (.int .i64 (r j)) := by
  rcases open_slice ht h with h0 | ⟨a, len, cap, m, n, D, Pl, hcs, hb, hl, hm, hmm, hx, hi⟩
  · exact .inl h0.1
  · refine .inr ⟨a, len, cap, hcs, hl, hm, fun i hil => ?_⟩
    obtain ⟨c, hc, hr⟩ := hi i (by rw [hmm]; split <;> omega)
    rw [hC] at hc
    obtain ⟨ys, n', _, _, _, hyl, hf⟩ := DataW.trod_struct he hr
    obtain ⟨_, hcl, hat⟩ := World.cells?_some hc
    have key : ∀ j, ∃ z : Int, j < fs.size → w.cell? (a.add (i * fs.size + j)) = some (.int .i64 z) := fun j => by
      by_cases hj : j < fs.size
      · have hfj : fs[j]? = some fs[j] := Array.getElem?_eq_getElem hj
        obtain ⟨ho, hk⟩ := hone_of hone j _ hfj
        have h1 := hf j _ hfj
        have hjc : j < c.length := by omega
        rw [ho, hk, show (c.drop j).take 1 = [c[j]] by rw [List.drop_eq_getElem_cons hjc]; rfl, List.getElem?_eq_getElem (by omega)] at h1
        obtain ⟨z, hz⟩ := int_cell (hint j _ hfj) h1
        refine ⟨z, fun _ => ?_⟩
        rw [← Go.Deep.add_add, hat j hj, List.getElem?_eq_getElem hjc, hz]
      · exact ⟨0, fun h => absurd h hj⟩
    exact ⟨fun j => (key j).choose, fun j hj => (key j).choose_spec hj⟩
end
end Go.Proofs.YtkkjbnmfjhmobaaDoor
