
/- An argument that is a slice of metronomelaw18.Step: rows of five ints (the last two a message's). -/
import Derived.Test.YtiiafhlckmkcnaaGreatRow
namespace Go.Proofs.YtiiafhlckmkcnaaGreat
open Go.ChangeShapes Go.WideShapes Go.Deep Go.RowKit

section
variable {H : Type} {enc : TypeId × Value → H} {w : World} {base : Nat} {spare : Nat → Bool} {held : Bool}
theorem stepU : Tryz.prog.underlying 35 = some (.struct (Tryz.prog.fieldsOf 35)) := by kernel_rfl
theorem msgU : Tryz.prog.underlying 33 = some (.struct (Tryz.prog.fieldsOf 33)) := by kernel_rfl
theorem stepF (i : Nat) (hi : i < 3) : ∃ f, (Tryz.prog.fieldsOf 35)[i]? = some f ∧ f.offset = i ∧ Tryz.prog.cellsOf f.type = 1 ∧ Tryz.prog.underlying f.type = some (.int .i64) := by
  match i, hi with
  | 0, _ => exact ⟨(Tryz.prog.fieldsOf 35)[0]!, by kernel_rfl, by kernel_rfl, by kernel_rfl, by kernel_rfl⟩
  | 1, _ => exact ⟨(Tryz.prog.fieldsOf 35)[1]!, by kernel_rfl, by kernel_rfl, by kernel_rfl, by kernel_rfl⟩
  | 2, _ => exact ⟨(Tryz.prog.fieldsOf 35)[2]!, by kernel_rfl, by kernel_rfl, by kernel_rfl, by kernel_rfl⟩
theorem stepF3 : ∃ f, (Tryz.prog.fieldsOf 35)[3]? = some f ∧ f.offset = 3 ∧ Tryz.prog.cellsOf f.type = 2 ∧ f.type = 33 := ⟨(Tryz.prog.fieldsOf 35)[3]!, by kernel_rfl, by kernel_rfl, by kernel_rfl, by kernel_rfl⟩
theorem msgF (i : Nat) (hi : i < 2) : ∃ f, (Tryz.prog.fieldsOf 33)[i]? = some f ∧ f.offset = i ∧ Tryz.prog.cellsOf f.type = 1 ∧ Tryz.prog.underlying f.type = some (.int .i64) := by
  match i, hi with
  | 0, _ => exact ⟨(Tryz.prog.fieldsOf 33)[0]!, by kernel_rfl, by kernel_rfl, by kernel_rfl, by kernel_rfl⟩
  | 1, _ => exact ⟨(Tryz.prog.fieldsOf 33)[1]!, by kernel_rfl, by kernel_rfl, by kernel_rfl, by kernel_rfl⟩

theorem one_at {l : List Value} {j : Nat} (hj : j < l.length) : (l.drop j).take 1 = [l[j]] := by rw [List.drop_eq_getElem_cons hj]; rfl

theorem msg_ints {n : Nat} {c : List Value} {x : DataW H × List MemPlace} (hl : c.length = 2) (h : DataW.trod enc Tryz.prog w base spare held n 33 c = some x) : ∀ j, (hj : j < c.length) → ∃ z : Int, c[j] = .int .i64 z := by
  obtain ⟨ys, n', _, _, _, hyl, hf⟩ := DataW.trod_struct msgU h
  intro j hj
  obtain ⟨f, h1, h2, h3, h4⟩ := msgF j (by omega)
  have h5 := hf j f h1
  have hjf : j < (Tryz.prog.fieldsOf 33).size := (Array.getElem?_eq_some_iff.1 h1).1
  rw [h2, h3, one_at hj, List.getElem?_eq_getElem (by omega)] at h5
  obtain ⟨z, hz⟩ := int_cell h4 h5
  exact ⟨z, hz⟩

set_option maxRecDepth 100000 in
theorem step_ints {n : Nat} {c : List Value} {x : DataW H × List MemPlace} (hl : c.length = 5) (h : DataW.trod enc Tryz.prog w base spare held n 35 c = some x) : ∀ j, (hj : j < c.length) → ∃ z : Int, c[j] = .int .i64 z := by
  obtain ⟨ys, n', _, _, _, hyl, hf⟩ := DataW.trod_struct stepU h
  intro j hj
  by_cases h3 : j < 3
  · obtain ⟨f, h1, h2, h3, h4⟩ := stepF j h3
    have h5 := hf j f h1
    have hjf : j < (Tryz.prog.fieldsOf 35).size := (Array.getElem?_eq_some_iff.1 h1).1
    rw [h2, h3, one_at hj, List.getElem?_eq_getElem (by omega)] at h5
    obtain ⟨z, hz⟩ := int_cell h4 h5
    exact ⟨z, hz⟩
  · obtain ⟨f, h1, h2, h4, h5⟩ := stepF3
    have h6 := hf 3 f h1
    have hjf : 3 < (Tryz.prog.fieldsOf 35).size := (Array.getElem?_eq_some_iff.1 h1).1
    rw [h2, h4, List.getElem?_eq_getElem (by omega), h5] at h6
    have hl2 : ((c.drop 3).take 2).length = 2 := by rw [List.length_take, List.length_drop]; omega
    obtain ⟨z, hz⟩ := msg_ints hl2 h6 (j - 3) (by omega)
    refine ⟨z, ?_⟩
    rw [List.getElem_take, List.getElem_drop] at hz
    rw [← hz]
    congr 1
    omega

theorem steps18_in {W : World} {a0 : Option Addr} {len0 cap0 : Nat} {d : DataW H} {p : List MemPlace} (h0 : DataW.Trod enc Tryz.prog W 0 (fun _ => true) true 23 (.slice a0 len0 cap0) d p) : ∃ R, IsRows 5 W (.slice a0 len0 cap0) R := by
  obtain ⟨fuel, h⟩ := h0
  rcases open_slice Tryz.underlying23 h with h0 | ⟨a, len, cap, m, n, D, Pl, hcs, hb, hl, hm, hmm, hx, hi⟩
  · have := h0.1
    simp [Value.cells] at this
    obtain ⟨rfl, rfl, rfl⟩ := this
    exact ⟨[], .inl ⟨rfl, none, 0, rfl⟩⟩
  · simp [Value.cells] at hcs
    obtain ⟨rfl, rfl, rfl⟩ := hcs
    refine IsRows.of_rows (n := 5) (by omega) (fun i hil => ?_)
    obtain ⟨c, hc, hr⟩ := hi i (by rw [hmm]; split <;> omega)
    rw [show Tryz.prog.cellsOf 35 = 5 from by kernel_rfl] at hc
    obtain ⟨_, hcl, hat⟩ := World.cells?_some hc
    have key : ∀ j, ∃ z : Int, j < 5 → W.cell? (a.add (i * 5 + j)) = some (.int .i64 z) := fun j => by
      by_cases hj : j < 5
      · have hjc : j < c.length := by omega
        obtain ⟨z, hz⟩ := step_ints (by omega) hr j hjc
        refine ⟨z, fun _ => ?_⟩
        rw [← Go.Deep.add_add, hat j hj, List.getElem?_eq_getElem hjc, hz]
      · exact ⟨0, fun h => absurd h hj⟩
    exact ⟨fun j => (key j).choose, fun j hj => (key j).choose_spec hj⟩
end
end Go.Proofs.YtiiafhlckmkcnaaGreat
