
/- '==' at a timer's struct (written by wip/eq19.py). -/
import Derived.Test.YtonahpilmchnkaaGe
import Derived.Laws.StructEq
namespace Go.Proofs.Ytonahpilmchnkaa
open Go.RowKit

def TE.eqb (x y : TE) : Bool := x.armed == y.armed && (x.clock == y.clock && (x.at_ == y.at_ && (x.iv == y.iv && (x.out == y.out && (x.cnt == y.cnt && x.ovr == y.ovr)))))
theorem TE.eqb_self (x : TE) : x.eqb x = true := by unfold TE.eqb; simp
theorem TE.eqb_iff {x y : TE} : x.eqb y = true ↔ x = y := by
  obtain ⟨a1, a2, a3, a4, a5, a6, a7⟩ := x
  obtain ⟨b1, b2, b3, b4, b5, b6, b7⟩ := y
  unfold TE.eqb
  simp
theorem part0 (x : TE) (w : World) : (part ((Try.prog.fieldsOf 32)[0]!).type x.cells.toArray ((Try.prog.fieldsOf 32)[0]!).offset).run Try.prog w = .ok (.bool x.armed) w := by kernel_rfl
theorem name0 : ((Try.prog.fieldsOf 32)[0]!).name ≠ "_" := by decide +kernel
theorem und0 : Try.prog.underlying ((Try.prog.fieldsOf 32)[0]!).type = some .bool := by kernel_rfl
theorem part1 (x : TE) (w : World) : (part ((Try.prog.fieldsOf 32)[1]!).type x.cells.toArray ((Try.prog.fieldsOf 32)[1]!).offset).run Try.prog w = .ok (.int .i64 x.clock) w := by kernel_rfl
theorem name1 : ((Try.prog.fieldsOf 32)[1]!).name ≠ "_" := by decide +kernel
theorem und1 : Try.prog.underlying ((Try.prog.fieldsOf 32)[1]!).type = some (.int .i64) := by kernel_rfl
theorem part2 (x : TE) (w : World) : (part ((Try.prog.fieldsOf 32)[2]!).type x.cells.toArray ((Try.prog.fieldsOf 32)[2]!).offset).run Try.prog w = .ok (.int .i64 x.at_) w := by kernel_rfl
theorem name2 : ((Try.prog.fieldsOf 32)[2]!).name ≠ "_" := by decide +kernel
theorem und2 : Try.prog.underlying ((Try.prog.fieldsOf 32)[2]!).type = some (.int .i64) := by kernel_rfl
theorem part3 (x : TE) (w : World) : (part ((Try.prog.fieldsOf 32)[3]!).type x.cells.toArray ((Try.prog.fieldsOf 32)[3]!).offset).run Try.prog w = .ok (.int .i64 x.iv) w := by kernel_rfl
theorem name3 : ((Try.prog.fieldsOf 32)[3]!).name ≠ "_" := by decide +kernel
theorem und3 : Try.prog.underlying ((Try.prog.fieldsOf 32)[3]!).type = some (.int .i64) := by kernel_rfl
theorem part4 (x : TE) (w : World) : (part ((Try.prog.fieldsOf 32)[4]!).type x.cells.toArray ((Try.prog.fieldsOf 32)[4]!).offset).run Try.prog w = .ok (.bool x.out) w := by kernel_rfl
theorem name4 : ((Try.prog.fieldsOf 32)[4]!).name ≠ "_" := by decide +kernel
theorem und4 : Try.prog.underlying ((Try.prog.fieldsOf 32)[4]!).type = some .bool := by kernel_rfl
theorem part5 (x : TE) (w : World) : (part ((Try.prog.fieldsOf 32)[5]!).type x.cells.toArray ((Try.prog.fieldsOf 32)[5]!).offset).run Try.prog w = .ok (.int .i64 x.cnt) w := by kernel_rfl
theorem name5 : ((Try.prog.fieldsOf 32)[5]!).name ≠ "_" := by decide +kernel
theorem und5 : Try.prog.underlying ((Try.prog.fieldsOf 32)[5]!).type = some (.int .i64) := by kernel_rfl
theorem part6 (x : TE) (w : World) : (part ((Try.prog.fieldsOf 32)[6]!).type x.cells.toArray ((Try.prog.fieldsOf 32)[6]!).offset).run Try.prog w = .ok (.int .i64 x.ovr) w := by kernel_rfl
theorem name6 : ((Try.prog.fieldsOf 32)[6]!).name ≠ "_" := by decide +kernel
theorem und6 : Try.prog.underlying ((Try.prog.fieldsOf 32)[6]!).type = some (.int .i64) := by kernel_rfl
theorem eqfT (x y : TE) (w : World) : (Op.eqFields 9999 x.cells.toArray y.cells.toArray (Try.prog.fieldsOf 32).toList).run Try.prog w = .ok (x.eqb y) w := by
  have hf : (Try.prog.fieldsOf 32).toList = [(Try.prog.fieldsOf 32)[0]!, (Try.prog.fieldsOf 32)[1]!, (Try.prog.fieldsOf 32)[2]!, (Try.prog.fieldsOf 32)[3]!, (Try.prog.fieldsOf 32)[4]!, (Try.prog.fieldsOf 32)[5]!, (Try.prog.fieldsOf 32)[6]!] := by kernel_rfl
  rw [hf]
  have e0 := run_equalIn_bool' (P := Try.prog) w 9998 _ x.armed y.armed und0
  have e1 := run_equalIn_int (P := Try.prog) w 9998 _ .i64 .i64 x.clock y.clock und1
  have e2 := run_equalIn_int (P := Try.prog) w 9998 _ .i64 .i64 x.at_ y.at_ und2
  have e3 := run_equalIn_int (P := Try.prog) w 9998 _ .i64 .i64 x.iv y.iv und3
  have e4 := run_equalIn_bool' (P := Try.prog) w 9998 _ x.out y.out und4
  have e5 := run_equalIn_int (P := Try.prog) w 9998 _ .i64 .i64 x.cnt y.cnt und5
  have e6 := run_equalIn_int (P := Try.prog) w 9998 _ .i64 .i64 x.ovr y.ovr und6
  unfold Op.eqFields Op.eqFields Op.eqFields Op.eqFields Op.eqFields Op.eqFields Op.eqFields Op.eqFields
  rw [if_pos name0, if_pos name1, if_pos name2, if_pos name3, if_pos name4, if_pos name5, if_pos name6]
  simp only [Sem.run_bind, Sem.run_ite, Sem.run_pure, part0, e0, part1, e1, part2, e2, part3, e3, part4, e4, part5, e5, part6, e6, Result.andThen_ok]
  unfold TE.eqb
  cases h0 : x.armed == y.armed
  · simp [*]
  cases h1 : x.clock == y.clock
  · simp [*]
  cases h2 : x.at_ == y.at_
  · simp [*]
  cases h3 : x.iv == y.iv
  · simp [*]
  cases h4 : x.out == y.out
  · simp [*]
  cases h5 : x.cnt == y.cnt
  · simp [*]
  cases h6 : x.ovr == y.ovr
  · simp [*]
  · simp [*]
theorem eqT (x y : TE) (w : World) : (binOp .eql 32 x.val y.val).run Try.prog w = .ok (.bool (x.eqb y)) w := by
  unfold TE.val
  rw [run_eql_struct, show (10000 : Nat) = 9998 + 1 + 1 from rfl, run_equalIn_struct w 9999 32 _ _ (by kernel_rfl) (by kernel_rfl), eqfT]
  rfl
theorem neqT (x y : TE) (w : World) : (binOp .neq 32 x.val y.val).run Try.prog w = .ok (.bool (!(x.eqb y))) w := by
  unfold TE.val
  rw [run_neq_struct, show (10000 : Nat) = 9998 + 1 + 1 from rfl, run_equalIn_struct w 9999 32 _ _ (by kernel_rfl) (by kernel_rfl), eqfT]
  rfl

end Go.Proofs.Ytonahpilmchnkaa
