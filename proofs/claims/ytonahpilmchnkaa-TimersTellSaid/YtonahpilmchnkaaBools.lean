
/- An argument that is a slice of truth values. -/
import Derived.Test.YtonahpilmchnkaaRow
namespace Go.Proofs.Ytonahpilmchnkaa
open Go.ChangeShapes Go.WideShapes Go.Deep Go.RowKit

/-- The value is a slice of truth values. -/
def IsBools (w : World) (v : Value) (R : List Bool) : Prop :=
  (R = [] ∧ ∃ a cap, v = .slice a 0 cap) ∨ ∃ b o cap, v = .slice (some ⟨b, o, none⟩) R.length cap ∧ ∀ j x, R[j]? = some x → w.cell? ⟨b, o + j, none⟩ = some (.bool x)
section
variable {H : Type} {enc : TypeId × Value → H} {P : Program} {w : World} {base : Nat} {spare : Nat → Bool} {held : Bool}
theorem bool_cell {n : Nat} {t : TypeId} {v : Value} {y : DataW H × List MemPlace} (ht : P.underlying t = some .bool) (h : DataW.trod enc P w base spare held n t [v] = some y) : ∃ z : Bool, v = .bool z := by
  obtain ⟨a, e0, _, _⟩ := DataW.trod_bool ht h
  exact ⟨a, by simpa using e0⟩
theorem open_bools {t e : TypeId} {fuel : Nat} {cs : List Value} {x : DataW H × List MemPlace} (ht : P.underlying t = some (.slice e)) (he : P.underlying e = some .bool) (hC : P.cellsOf e = 1)
    (h : DataW.trod enc P w base spare held fuel t cs = some x) :
    cs = [.slice none 0 0] ∨ ∃ (a : Addr) (len cap : Nat), cs = [.slice (some a) len cap] ∧ ∀ i, i < len → ∃ z : Bool, w.cell? (a.add i) = some (.bool z) := by
  rcases open_slice ht h with h0 | ⟨a, len, cap, m, n, D, Pl, hcs, hb, hl, hm, hmm, hx, hi⟩
  · exact .inl h0.1
  · refine .inr ⟨a, len, cap, hcs, fun i hil => ?_⟩
    obtain ⟨c, hc, hr⟩ := hi i (by rw [hmm]; split <;> omega)
    rw [hC, Nat.mul_one] at hc
    obtain ⟨_, hcl, hat⟩ := World.cells?_some hc
    match c, hcl, hat, hr with
    | [v0], _, hat, hr =>
      obtain ⟨z, rfl⟩ := bool_cell he hr
      have := hat 0 (by simp)
      exact ⟨z, by simpa [Addr.add] using this⟩
end
theorem bools_in {H : Type} {enc : TypeId × Value → H} {W : World} {t e : TypeId} (ht : Try.prog.underlying t = some (.slice e)) (he : Try.prog.underlying e = some .bool) (hC : Try.prog.cellsOf e = 1)
    {a0 : Option Addr} {len0 cap0 : Nat} {d : DataW H} {p : List MemPlace} (h0 : DataW.Trod enc Try.prog W 0 (fun _ => true) true t (.slice a0 len0 cap0) d p) : ∃ ts, IsBools W (.slice a0 len0 cap0) ts := by
  obtain ⟨fuel, hf⟩ := h0
  rcases open_bools ht he hC hf with hcs | ⟨x, l, c, hcs, hr⟩
  · simp [Value.cells] at hcs
    obtain ⟨rfl, rfl, rfl⟩ := hcs
    exact ⟨[], .inl ⟨rfl, none, 0, rfl⟩⟩
  · simp [Value.cells] at hcs
    obtain ⟨rfl, rfl, rfl⟩ := hcs
    by_cases hl : len0 = 0
    · subst hl
      exact ⟨[], .inl ⟨rfl, _, _, rfl⟩⟩
    · have key : ∀ i, ∃ z : Bool, i < len0 → W.cell? (x.add i) = some (.bool z) := fun i => by
        by_cases hi : i < len0
        · obtain ⟨z, h⟩ := hr i hi
          exact ⟨z, fun _ => h⟩
        · exact ⟨false, fun h => absurd h hi⟩
      obtain ⟨f, hf⟩ : ∃ f : Nat → Bool, ∀ i, i < len0 → W.cell? (x.add i) = some (.bool (f i)) := ⟨fun i => (key i).choose, fun i => (key i).choose_spec⟩
      obtain ⟨b, o, spot⟩ := x
      have hs : spot = none := by
        have := hf 0 (by omega)
        have := addr_spot' this
        simpa [Addr.add] using this
      subst hs
      have e : ∀ n, (Addr.add ⟨b, o, none⟩ n) = ⟨b, o + n, none⟩ := fun n => by unfold Addr.add; split <;> simp_all
      refine ⟨(List.range len0).map f, .inr ⟨b, o, cap0, by simp, fun j y hj => ?_⟩⟩
      have hjl : j < len0 := by
        have := (List.getElem?_eq_some_iff.1 hj).1
        simpa using this
      simp [hjl] at hj
      subst hj
      have h := hf j hjl
      rwa [e] at h
end Go.Proofs.Ytonahpilmchnkaa
