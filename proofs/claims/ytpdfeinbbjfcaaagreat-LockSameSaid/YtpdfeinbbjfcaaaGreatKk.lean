
/- Arrays of 16 ints compared; metronomeref15.Same: its parts. -/
import Derived.Test.YtpdfeinbbjfcaaaGreatWa
import Derived.Laws.StructEq
import Derived.Deep.MidRow
namespace Go.Proofs.YtpdfeinbbjfcaaaGreat
open Go.RowKit

theorem undArr16 : Tryz.prog.underlying 47 = some (.array 16 3) := by kernel_rfl
theorem cellsInt : Tryz.prog.cellsOf 3 = 1 := by kernel_rfl
theorem guardArr16 : Tryz.prog.eqGuardType Tryz.prog.depth 47 = false := by kernel_rfl
theorem part_int_at (w : World) (C : List Int) (i : Nat) (x : Int) (h : C[i]? = some x) : (part 3 (C.map (Value.int .i64)).toArray (i * 1)).run Tryz.prog w = .ok (.int .i64 x) w := by
  have hc : ((C.map (Value.int .i64)).toArray)[i * 1]? = some (.int .i64 x) := by
    rw [Nat.mul_one, List.getElem?_toArray, List.getElem?_map, h]
    rfl
  generalize (C.map (Value.int .i64)).toArray = xs at hc ⊢
  rw [Nat.mul_one] at hc ⊢
  simp [go_sem, part, hc]
theorem eqItems_ints (w : World) (C D : List Int) : ∀ is : List Nat, (∀ i ∈ is, i < C.length ∧ i < D.length) → (Op.eqItems 9999 3 1 (C.map (Value.int .i64)).toArray (D.map (Value.int .i64)).toArray is).run Tryz.prog w = .ok (decide (∀ i ∈ is, C[i]? = D[i]?)) w
  | [], _ => by simp [Op.eqItems]
  | i :: is, h => by
    obtain ⟨h1, h2⟩ := h i (by simp)
    have ih := eqItems_ints w C D is (fun j hj => h j (by simp [hj]))
    have hE : (Op.equalIn 9999 3 (.int .i64 C[i]) (.int .i64 D[i])).run Tryz.prog w = .ok (C[i] == D[i]) w := run_equalIn_int w 9998 _ _ _ _ _ Tryz.underlying3
    rw [Op.eqItems]
    simp only [Sem.run_bind, part_int_at w C i _ (List.getElem?_eq_getElem h1), part_int_at w D i _ (List.getElem?_eq_getElem h2), Result.andThen_ok, hE]
    by_cases he : C[i] = D[i]
    · have hb : (C[i] == D[i]) = true := by simpa using he
      rw [hb]
      simp only [Bool.not_true, Bool.false_eq_true, if_false, ih]
      refine congrArg (fun b => Result.ok b w) ?_
      rw [Bool.eq_iff_iff, decide_eq_true_iff, decide_eq_true_iff]
      constructor
      · intro H j hj
        rcases List.mem_cons.1 hj with rfl | hj
        · rw [List.getElem?_eq_getElem h1, List.getElem?_eq_getElem h2, he]
        · exact H j hj
      · exact fun H j hj => H j (by simp [hj])
    · have hb : (C[i] == D[i]) = false := by simpa using he
      rw [hb]
      simp only [Bool.not_false, if_true, Sem.run_pure]
      rw [decide_eq_false]
      intro H
      have := H i (by simp)
      rw [List.getElem?_eq_getElem h1, List.getElem?_eq_getElem h2] at this
      exact he (Option.some.inj this)
theorem eql_arr16 (w : World) (C D : List Int) (hc : C.length = 16) (hd : D.length = 16) : (binOp .eql 47 (.agg (C.map (Value.int .i64)).toArray) (.agg (D.map (Value.int .i64)).toArray)).run Tryz.prog w = .ok (.bool (decide (C = D))) w := by
  obtain ⟨i, hi⟩ := Option.isSome_iff_exists.1 (show (Tryz.prog.info? 3).isSome = true by kernel_rfl)
  rw [run_eql_struct, show (10000 : Nat) = 9999 + 1 from rfl, run_equalIn_array w 9999 _ _ undArr16 hi, cellsInt, eqItems_ints w C D _ (fun i hi => by rw [hc, hd]; simpa using hi)]
  simp only [Result.andThen_ok]
  refine congrArg (fun b => Result.ok (Value.bool b) w) ?_
  rw [Bool.eq_iff_iff, decide_eq_true_iff, decide_eq_true_iff]
  constructor
  · intro H
    refine List.ext_getElem (by omega) fun j h1 h2 => ?_
    have := H j (by simp; omega)
    rw [List.getElem?_eq_getElem h1, List.getElem?_eq_getElem h2] at this
    exact Option.some.inj this
  · rintro rfl j _
    rfl

end Go.Proofs.YtpdfeinbbjfcaaaGreat
