
/- Rows of ints in a slice that came in: read as functions of the column; kept by what turns no block of old. -/
import Derived.Test.YtiiafhlckmkcnaaGreatOpn
import Derived.Test.YtiiafhlckmkcnaaGreatJW
namespace Go.Proofs.YtiiafhlckmkcnaaGreat
open Go.ChangeShapes Go.WideShapes Go.Deep Go.RowKit

/-- The value is a slice of rows of n ints. -/
def IsRows (n : Nat) (w : World) (v : Value) (R : List (Nat → Int)) : Prop :=
  (R = [] ∧ ∃ a cap, v = .slice a 0 cap) ∨ ∃ b o cap, v = .slice (some ⟨b, o, none⟩) R.length cap ∧ ∀ j x, R[j]? = some x → ∀ i, i < n → w.cell? ⟨b, o + j * n + i, none⟩ = some (.int .i64 (x i))

theorem IsRows.slice {n : Nat} {w : World} {v : Value} {R : List (Nat → Int)} (h : IsRows n w v R) : ∃ a cap, v = .slice a R.length cap := by
  rcases h with ⟨rfl, a, cap, rfl⟩ | ⟨b, o, cap, rfl, _⟩
  · exact ⟨a, cap, rfl⟩
  · exact ⟨_, cap, rfl⟩
theorem IsRows.addr {n : Nat} {w : World} {v : Value} {R : List (Nat → Int)} (h : IsRows n w v R) (hn : R ≠ []) : ∃ b o cap, v = .slice (some ⟨b, o, none⟩) R.length cap ∧ ∀ j x, R[j]? = some x → ∀ i, i < n → w.cell? ⟨b, o + j * n + i, none⟩ = some (.int .i64 (x i)) := by
  rcases h with ⟨rfl, _⟩ | ⟨b, o, cap, h1, h2⟩
  · exact absurd rfl hn
  · exact ⟨b, o, cap, h1, h2⟩

theorem addr_spot' {w : World} {a : Addr} {v : Value} (h : w.cell? a = some v) : a.spot = none := by
  unfold World.cell? at h
  split at h
  · cases hs : a.spot with
    | none => rfl
    | some x => simp [hs] at h
  · cases h
theorem cell_kept' {S : List Nat} {w w' : World} {p : Addr} {v : Value} (h : w.cell? p = some v) (hC : Chg S w w') (hn : p.block ∉ S) : w'.cell? p = some v :=
  (World.cell?_of_block (hC.block p.block (World.block_lt_of_cell? _ _ h) hn)).trans h

theorem IsRows.of_rows {n : Nat} {w : World} {x : Addr} {l c : Nat} (hn : 0 < n) (hr : ∀ i, i < l → ∃ r : Nat → Int, ∀ j, j < n → w.cell? (x.add (i * n + j)) = some (.int .i64 (r j))) : ∃ R, IsRows n w (.slice (some x) l c) R := by
  by_cases hl : l = 0
  · subst hl
    exact ⟨[], .inl ⟨rfl, _, _, rfl⟩⟩
  · have key : ∀ i, ∃ r : Nat → Int, i < l → ∀ j, j < n → w.cell? (x.add (i * n + j)) = some (.int .i64 (r j)) := fun i => by
      by_cases hi : i < l
      · obtain ⟨r, h⟩ := hr i hi
        exact ⟨r, fun _ => h⟩
      · exact ⟨fun _ => 0, fun h => absurd h hi⟩
    obtain ⟨f, hf⟩ : ∃ f : Nat → Nat → Int, ∀ i, i < l → ∀ j, j < n → w.cell? (x.add (i * n + j)) = some (.int .i64 (f i j)) := ⟨fun i => (key i).choose, fun i => (key i).choose_spec⟩
    clear key hr
    obtain ⟨b, o, spot⟩ := x
    have hs : spot = none := by
      have := hf 0 (by omega) 0 hn
      have := addr_spot' this
      simpa [Addr.add] using this
    subst hs
    have e : ∀ n, (Addr.add ⟨b, o, none⟩ n) = ⟨b, o + n, none⟩ := fun n => by unfold Addr.add; split <;> simp_all
    refine ⟨(List.range l).map fun i => f i, .inr ⟨b, o, c, by simp, fun j y hj => ?_⟩⟩
    have hjl : j < l := by
      have := (List.getElem?_eq_some_iff.1 hj).1
      simpa using this
    simp [hjl] at hj
    subst hj
    intro i hi
    have h := hf j hjl i hi
    rw [e] at h
    rw [Nat.add_assoc]; exact h

/-- A row's cells, in whatever world a calm way leads to. -/
theorem IsRows.row {n : Nat} {w w' : World} {b o : Nat} {R : List (Nat → Int)} (hc : ∀ j x, R[j]? = some x → ∀ i, i < n → w.cell? ⟨b, o + j * n + i, none⟩ = some (.int .i64 (x i))) (hC : Chg [] w w') {k : Nat} {x : Nat → Int} (hx : R[k]? = some x) :
    ∀ i, i < n → w'.cell? ⟨b, o + k * n + i, none⟩ = some (.int .i64 (x i)) := fun i hi => cell_kept' (hc k x hx i hi) hC (by simp)

theorem rows_in {H : Type} {enc : TypeId × Value → H} {W : World} {t e : TypeId} {fs : Array Field} {n : Nat} (ht : Tryz.prog.underlying t = some (.slice e)) (he : Tryz.prog.underlying e = some (.struct fs)) (hn : fs.size = n) (hn0 : 0 < n)
    (hone : oneCellFields Tryz.prog fs = true) (hC : Tryz.prog.cellsOf e = fs.size) (hint : ∀ (j : Nat) (f : Field), fs[j]? = some f → Tryz.prog.underlying f.type = some (.int .i64))
    {a0 : Option Addr} {len0 cap0 : Nat} {d : DataW H} {p : List MemPlace} (h0 : DataW.Trod enc Tryz.prog W 0 (fun _ => true) true t (.slice a0 len0 cap0) d p) : ∃ R, IsRows n W (.slice a0 len0 cap0) R := by
  subst hn
  obtain ⟨fuel, hf⟩ := h0
  rcases open_rows ht he hone hC hint hf with hcs | ⟨x, l, c, hcs, hl, hm, hr⟩
  · simp [Value.cells] at hcs
    obtain ⟨rfl, rfl, rfl⟩ := hcs
    exact ⟨[], .inl ⟨rfl, none, 0, rfl⟩⟩
  · simp [Value.cells] at hcs
    obtain ⟨rfl, rfl, rfl⟩ := hcs
    exact IsRows.of_rows hn0 hr
end Go.Proofs.YtiiafhlckmkcnaaGreat
