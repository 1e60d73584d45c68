
/- '==' at eight timers' structs. -/
import Derived.Test.YtonahpilmchnkaaGk
import Derived.ChangeKeysEq
namespace Go.Proofs.Ytonahpilmchnkaa
open Go.RowKit

theorem eqfD (d : Nat) (x y : TE) (w : World) : (Op.eqFields (d + 1) x.cells.toArray y.cells.toArray (Try.prog.fieldsOf 32).toList).run Try.prog w = .ok (x.eqb y) w := by
  have hf : (Try.prog.fieldsOf 32).toList = [(Try.prog.fieldsOf 32)[0]!, (Try.prog.fieldsOf 32)[1]!, (Try.prog.fieldsOf 32)[2]!, (Try.prog.fieldsOf 32)[3]!, (Try.prog.fieldsOf 32)[4]!, (Try.prog.fieldsOf 32)[5]!, (Try.prog.fieldsOf 32)[6]!] := by kernel_rfl
  rw [hf]
  have e0 := run_equalIn_bool' (P := Try.prog) w d _ x.armed y.armed und0
  have e1 := run_equalIn_int (P := Try.prog) w d _ .i64 .i64 x.clock y.clock und1
  have e2 := run_equalIn_int (P := Try.prog) w d _ .i64 .i64 x.at_ y.at_ und2
  have e3 := run_equalIn_int (P := Try.prog) w d _ .i64 .i64 x.iv y.iv und3
  have e4 := run_equalIn_bool' (P := Try.prog) w d _ x.out y.out und4
  have e5 := run_equalIn_int (P := Try.prog) w d _ .i64 .i64 x.cnt y.cnt und5
  have e6 := run_equalIn_int (P := Try.prog) w d _ .i64 .i64 x.ovr y.ovr und6
  unfold Op.eqFields Op.eqFields Op.eqFields Op.eqFields Op.eqFields Op.eqFields Op.eqFields Op.eqFields
  rw [if_pos name0, if_pos name1, if_pos name2, if_pos name3, if_pos name4, if_pos name5, if_pos name6]
  simp only [Sem.run_bind, Sem.run_ite, Sem.run_pure, part0, e0, part1, e1, part2, e2, part3, e3, part4, e4, part5, e5, part6, e6, Result.andThen_ok]
  unfold TE.eqb
  cases h0 : x.armed == y.armed
  · simp [*]
  cases h1 : x.clock == y.clock
  · simp [*]
  cases h2 : x.at_ == y.at_
  · simp [*]
  cases h3 : x.iv == y.iv
  · simp [*]
  cases h4 : x.out == y.out
  · simp [*]
  cases h5 : x.cnt == y.cnt
  · simp [*]
  cases h6 : x.ovr == y.ovr
  · simp [*]
  · simp [*]
theorem eqin (d : Nat) (x y : TE) (w : World) : (Op.equalIn (d + 1 + 1) 32 x.val y.val).run Try.prog w = .ok (x.eqb y) w := by
  unfold TE.val
  rw [run_equalIn_struct w (d + 1) 32 _ _ (by kernel_rfl) (by kernel_rfl), eqfD]
theorem partL0 (e0 e1 e2 e3 e4 e5 e6 e7 : TE) (w : World) : (part 32 (flatT [e0, e1, e2, e3, e4, e5, e6, e7]).toArray (0 * 7)).run Try.prog w = .ok e0.val w := by kernel_rfl
theorem partL1 (e0 e1 e2 e3 e4 e5 e6 e7 : TE) (w : World) : (part 32 (flatT [e0, e1, e2, e3, e4, e5, e6, e7]).toArray (1 * 7)).run Try.prog w = .ok e1.val w := by kernel_rfl
theorem partL2 (e0 e1 e2 e3 e4 e5 e6 e7 : TE) (w : World) : (part 32 (flatT [e0, e1, e2, e3, e4, e5, e6, e7]).toArray (2 * 7)).run Try.prog w = .ok e2.val w := by kernel_rfl
theorem partL3 (e0 e1 e2 e3 e4 e5 e6 e7 : TE) (w : World) : (part 32 (flatT [e0, e1, e2, e3, e4, e5, e6, e7]).toArray (3 * 7)).run Try.prog w = .ok e3.val w := by kernel_rfl
theorem partL4 (e0 e1 e2 e3 e4 e5 e6 e7 : TE) (w : World) : (part 32 (flatT [e0, e1, e2, e3, e4, e5, e6, e7]).toArray (4 * 7)).run Try.prog w = .ok e4.val w := by kernel_rfl
theorem partL5 (e0 e1 e2 e3 e4 e5 e6 e7 : TE) (w : World) : (part 32 (flatT [e0, e1, e2, e3, e4, e5, e6, e7]).toArray (5 * 7)).run Try.prog w = .ok e5.val w := by kernel_rfl
theorem partL6 (e0 e1 e2 e3 e4 e5 e6 e7 : TE) (w : World) : (part 32 (flatT [e0, e1, e2, e3, e4, e5, e6, e7]).toArray (6 * 7)).run Try.prog w = .ok e6.val w := by kernel_rfl
theorem partL7 (e0 e1 e2 e3 e4 e5 e6 e7 : TE) (w : World) : (part 32 (flatT [e0, e1, e2, e3, e4, e5, e6, e7]).toArray (7 * 7)).run Try.prog w = .ok e7.val w := by kernel_rfl
theorem partL {L : List TE} (h : L.length = 8) {j : Nat} {e : TE} (hj : L[j]? = some e) (w : World) : (part 32 (flatT L).toArray (j * 7)).run Try.prog w = .ok e.val w := by
  match L, h with
  | [e0, e1, e2, e3, e4, e5, e6, e7], _ =>
    rcases j with _ | _ | _ | _ | _ | _ | _ | _ | j
    · cases hj; exact partL0 _ _ _ _ _ _ _ _ w
    · cases hj; exact partL1 _ _ _ _ _ _ _ _ w
    · cases hj; exact partL2 _ _ _ _ _ _ _ _ w
    · cases hj; exact partL3 _ _ _ _ _ _ _ _ w
    · cases hj; exact partL4 _ _ _ _ _ _ _ _ w
    · cases hj; exact partL5 _ _ _ _ _ _ _ _ w
    · cases hj; exact partL6 _ _ _ _ _ _ _ _ w
    · cases hj; exact partL7 _ _ _ _ _ _ _ _ w
    · simp at hj
def allEqb (L M : List TE) (js : List Nat) : Bool := js.all fun j => match L[j]?, M[j]? with | some x, some y => x.eqb y | _, _ => false
theorem eqItL {L M : List TE} (hL : L.length = 8) (hM : M.length = 8) (w : World) : ∀ js : List Nat, (∀ j ∈ js, j < 8) → (Op.eqItems 9999 32 7 (flatT L).toArray (flatT M).toArray js).run Try.prog w = .ok (allEqb L M js) w := by
  intro js
  induction js with
  | nil => intro _; rfl
  | cons j js ih =>
    intro hj
    obtain ⟨x, hx⟩ : ∃ x, L[j]? = some x := ⟨_, List.getElem?_eq_getElem (by have := hj j List.mem_cons_self; omega)⟩
    obtain ⟨y, hy⟩ : ∃ y, M[j]? = some y := ⟨_, List.getElem?_eq_getElem (by have := hj j List.mem_cons_self; omega)⟩
    have h1 := ih (fun i hi => hj i (List.mem_cons_of_mem _ hi))
    have e1 := eqin 9997 x y w
    unfold Op.eqItems
    simp only [Sem.run_bind, partL hL hx, partL hM hy, Result.andThen_ok, e1, Sem.run_ite, Sem.run_pure, h1]
    unfold allEqb
    rw [List.all_cons, hx, hy]
    dsimp only
    cases x.eqb y <;> simp
theorem allEqb_iff {L M : List TE} (hL : L.length = 8) (hM : M.length = 8) : allEqb L M (List.range 8) = true ↔ L = M := by
  unfold allEqb
  rw [List.all_eq_true]
  constructor
  · intro h
    apply List.ext_getElem?
    intro j
    by_cases hj : j < 8
    · obtain ⟨x, hx⟩ : ∃ x, L[j]? = some x := ⟨_, List.getElem?_eq_getElem (by omega)⟩
      obtain ⟨y, hy⟩ : ∃ y, M[j]? = some y := ⟨_, List.getElem?_eq_getElem (by omega)⟩
      have := h j (List.mem_range.2 hj)
      rw [hx, hy] at this
      rw [hx, hy, TE.eqb_iff.1 this]
    · rw [List.getElem?_eq_none (by omega), List.getElem?_eq_none (by omega)]
  · rintro rfl j hj
    have hj8 := List.mem_range.1 hj
    obtain ⟨x, hx⟩ : ∃ x, L[j]? = some x := ⟨_, List.getElem?_eq_getElem (by omega)⟩
    rw [hx]
    exact TE.eqb_self x
theorem infoT : ∃ i, Try.prog.info? 32 = some i := by
  have h := sizeT
  cases e : Try.prog.info? 32 with
  | none => rw [e] at h; cases h
  | some i => exact ⟨i, rfl⟩
theorem eqL {L M : List TE} (hL : L.length = 8) (hM : M.length = 8) (w : World) : (binOp .eql 51 (.agg (flatT L).toArray) (.agg (flatT M).toArray)).run Try.prog w = .ok (.bool (allEqb L M (List.range 8))) w := by
  obtain ⟨i, hi⟩ := infoT
  rw [run_eql_struct, show (10000 : Nat) = 9999 + 1 from rfl, run_equalIn_array (P := Try.prog) w 9999 (t := 51) (e := 32) (n := 8) _ _ (by kernel_rfl) hi, show Try.prog.cellsOf 32 = 7 from by kernel_rfl, eqItL hL hM w (List.range 8) (fun j hj => List.mem_range.1 hj)]
  rfl
theorem neqL {L M : List TE} (hL : L.length = 8) (hM : M.length = 8) (w : World) : (binOp .neq 51 (.agg (flatT L).toArray) (.agg (flatT M).toArray)).run Try.prog w = .ok (.bool (!(allEqb L M (List.range 8)))) w := by
  obtain ⟨i, hi⟩ := infoT
  rw [run_neq_struct, show (10000 : Nat) = 9999 + 1 from rfl, run_equalIn_array (P := Try.prog) w 9999 (t := 51) (e := 32) (n := 8) _ _ (by kernel_rfl) hi, show Try.prog.cellsOf 32 = 7 from by kernel_rfl, eqItL hL hM w (List.range 8) (fun j hj => List.mem_range.1 hj)]
  rfl

end Go.Proofs.Ytonahpilmchnkaa
