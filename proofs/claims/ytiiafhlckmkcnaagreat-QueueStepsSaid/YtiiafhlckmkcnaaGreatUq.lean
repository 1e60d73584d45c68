
/- '==' and '!=' at messages and at what a call passed. -/
import Derived.Test.YtiiafhlckmkcnaaGreatUn
import Derived.Laws.StructEq
namespace Go.Proofs.YtiiafhlckmkcnaaGreat
open Go.RowKit

def eqbM (x y : Int × Int) : Bool := x.1 == y.1 && x.2 == y.2
theorem eqbM_self (x : Int × Int) : eqbM x x = true := by unfold eqbM; simp
theorem eqbM_iff {x y : Int × Int} : eqbM x y = true ↔ x = y := by
  obtain ⟨a, b⟩ := x
  obtain ⟨c, d⟩ := y
  unfold eqbM
  simp
def PD.eqb (x y : PD) : Bool := x.done == y.done && (eqbM (x.v, x.p) (y.v, y.p) && x.other == y.other)
theorem PD.eqb_self (x : PD) : x.eqb x = true := by unfold PD.eqb; simp [eqbM_self]
theorem mpart0 (x : Int × Int) (w : World) : (part ((Tryz.prog.fieldsOf 33)[0]!).type #[.int .i64 x.1, .int .i64 x.2] ((Tryz.prog.fieldsOf 33)[0]!).offset).run Tryz.prog w = .ok (.int .i64 x.1) w := by kernel_rfl
theorem mname0 : ((Tryz.prog.fieldsOf 33)[0]!).name ≠ "_" := by decide +kernel
theorem mund0 : Tryz.prog.underlying ((Tryz.prog.fieldsOf 33)[0]!).type = some (.int .i64) := by kernel_rfl
theorem mpart1 (x : Int × Int) (w : World) : (part ((Tryz.prog.fieldsOf 33)[1]!).type #[.int .i64 x.1, .int .i64 x.2] ((Tryz.prog.fieldsOf 33)[1]!).offset).run Tryz.prog w = .ok (.int .i64 x.2) w := by kernel_rfl
theorem mname1 : ((Tryz.prog.fieldsOf 33)[1]!).name ≠ "_" := by decide +kernel
theorem mund1 : Tryz.prog.underlying ((Tryz.prog.fieldsOf 33)[1]!).type = some (.int .i64) := by kernel_rfl
theorem eqfM9999 (x y : Int × Int) (w : World) : (Op.eqFields 9999 #[.int .i64 x.1, .int .i64 x.2] #[.int .i64 y.1, .int .i64 y.2] (Tryz.prog.fieldsOf 33).toList).run Tryz.prog w = .ok (eqbM x y) w := by
  have hf : (Tryz.prog.fieldsOf 33).toList = [((Tryz.prog.fieldsOf 33)[0]!), ((Tryz.prog.fieldsOf 33)[1]!)] := by kernel_rfl
  rw [hf]
  have e0 := run_equalIn_int (P := Tryz.prog) w 9998 _ .i64 .i64 x.1 y.1 mund0
  have e1 := run_equalIn_int (P := Tryz.prog) w 9998 _ .i64 .i64 x.2 y.2 mund1
  unfold Op.eqFields Op.eqFields Op.eqFields
  rw [if_pos mname0, if_pos mname1]
  simp only [Sem.run_bind, Sem.run_ite, Sem.run_pure, mpart0, e0, mpart1, e1, Result.andThen_ok]
  unfold eqbM
  cases h0 : x.1 == y.1
  · simp [*]
  cases h1 : x.2 == y.2
  · simp [*]
  · simp [*]
theorem eqfM9998 (x y : Int × Int) (w : World) : (Op.eqFields 9998 #[.int .i64 x.1, .int .i64 x.2] #[.int .i64 y.1, .int .i64 y.2] (Tryz.prog.fieldsOf 33).toList).run Tryz.prog w = .ok (eqbM x y) w := by
  have hf : (Tryz.prog.fieldsOf 33).toList = [((Tryz.prog.fieldsOf 33)[0]!), ((Tryz.prog.fieldsOf 33)[1]!)] := by kernel_rfl
  rw [hf]
  have e0 := run_equalIn_int (P := Tryz.prog) w 9997 _ .i64 .i64 x.1 y.1 mund0
  have e1 := run_equalIn_int (P := Tryz.prog) w 9997 _ .i64 .i64 x.2 y.2 mund1
  unfold Op.eqFields Op.eqFields Op.eqFields
  rw [if_pos mname0, if_pos mname1]
  simp only [Sem.run_bind, Sem.run_ite, Sem.run_pure, mpart0, e0, mpart1, e1, Result.andThen_ok]
  unfold eqbM
  cases h0 : x.1 == y.1
  · simp [*]
  cases h1 : x.2 == y.2
  · simp [*]
  · simp [*]
theorem eqlM (x y : Int × Int) (w : World) : (binOp .eql 33 (msgV x) (msgV y)).run Tryz.prog w = .ok (.bool (eqbM x y)) w := by
  unfold msgV
  rw [run_eql_struct, show (10000 : Nat) = 9998 + 1 + 1 from rfl, run_equalIn_struct w 9999 33 _ _ (by kernel_rfl) (by kernel_rfl), eqfM9999]
  rfl
theorem neqM (x y : Int × Int) (w : World) : (binOp .neq 33 (msgV x) (msgV y)).run Tryz.prog w = .ok (.bool (!(eqbM x y))) w := by
  unfold msgV
  rw [run_neq_struct, show (10000 : Nat) = 9998 + 1 + 1 from rfl, run_equalIn_struct w 9999 33 _ _ (by kernel_rfl) (by kernel_rfl), eqfM9999]
  rfl
theorem eqiM (x y : Int × Int) (w : World) : (Op.equalIn 9999 33 (msgV x) (msgV y)).run Tryz.prog w = .ok (eqbM x y) w := by
  unfold msgV
  rw [show (9999 : Nat) = 9998 + 1 from rfl, run_equalIn_struct w 9998 33 _ _ (by kernel_rfl) (by kernel_rfl), eqfM9998]
theorem ppart0 (x : PD) (w : World) : (part ((Tryz.prog.fieldsOf 58)[0]!).type #[.bool x.done, .int .i64 x.v, .int .i64 x.p, .int .i64 x.other] ((Tryz.prog.fieldsOf 58)[0]!).offset).run Tryz.prog w = .ok (.bool x.done) w := by kernel_rfl
theorem pname0 : ((Tryz.prog.fieldsOf 58)[0]!).name ≠ "_" := by decide +kernel
theorem pund0 : Tryz.prog.underlying ((Tryz.prog.fieldsOf 58)[0]!).type = some .bool := by kernel_rfl
theorem ppart1 (x : PD) (w : World) : (part ((Tryz.prog.fieldsOf 58)[1]!).type #[.bool x.done, .int .i64 x.v, .int .i64 x.p, .int .i64 x.other] ((Tryz.prog.fieldsOf 58)[1]!).offset).run Tryz.prog w = .ok (msgV (x.v, x.p)) w := by kernel_rfl
theorem pname1 : ((Tryz.prog.fieldsOf 58)[1]!).name ≠ "_" := by decide +kernel
theorem pty1 : ((Tryz.prog.fieldsOf 58)[1]!).type = 33 := by kernel_rfl
theorem ppart2 (x : PD) (w : World) : (part ((Tryz.prog.fieldsOf 58)[2]!).type #[.bool x.done, .int .i64 x.v, .int .i64 x.p, .int .i64 x.other] ((Tryz.prog.fieldsOf 58)[2]!).offset).run Tryz.prog w = .ok (.int .i64 x.other) w := by kernel_rfl
theorem pname2 : ((Tryz.prog.fieldsOf 58)[2]!).name ≠ "_" := by decide +kernel
theorem pund2 : Tryz.prog.underlying ((Tryz.prog.fieldsOf 58)[2]!).type = some (.int .i64) := by kernel_rfl
theorem eqfP (x y : PD) (w : World) : (Op.eqFields 9999 #[.bool x.done, .int .i64 x.v, .int .i64 x.p, .int .i64 x.other] #[.bool y.done, .int .i64 y.v, .int .i64 y.p, .int .i64 y.other] (Tryz.prog.fieldsOf 58).toList).run Tryz.prog w = .ok (x.eqb y) w := by
  have hf : (Tryz.prog.fieldsOf 58).toList = [((Tryz.prog.fieldsOf 58)[0]!), ((Tryz.prog.fieldsOf 58)[1]!), ((Tryz.prog.fieldsOf 58)[2]!)] := by kernel_rfl
  rw [hf]
  have e0 := run_equalIn_bool' (P := Tryz.prog) w 9998 _ x.done y.done pund0
  have e1 := eqiM (x.v, x.p) (y.v, y.p) w
  rw [← pty1] at e1
  have e2 := run_equalIn_int (P := Tryz.prog) w 9998 _ .i64 .i64 x.other y.other pund2
  unfold Op.eqFields Op.eqFields Op.eqFields Op.eqFields
  rw [if_pos pname0, if_pos pname1, if_pos pname2]
  simp only [Sem.run_bind, Sem.run_ite, Sem.run_pure, ppart0, e0, ppart1, e1, ppart2, e2, Result.andThen_ok]
  unfold PD.eqb
  cases h0 : x.done == y.done
  · simp [*]
  cases h1 : eqbM (x.v, x.p) (y.v, y.p)
  · simp [*]
  cases h2 : x.other == y.other
  · simp [*]
  · simp [*]
theorem eqlP (x y : PD) (w : World) : (binOp .eql 58 (pdV x) (pdV y)).run Tryz.prog w = .ok (.bool (x.eqb y)) w := by
  unfold pdV
  rw [run_eql_struct, show (10000 : Nat) = 9998 + 1 + 1 from rfl, run_equalIn_struct w 9999 58 _ _ (by kernel_rfl) (by kernel_rfl), eqfP]
  rfl

end Go.Proofs.YtiiafhlckmkcnaaGreat
