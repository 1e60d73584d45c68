
/- The closure that looks two threads up and compares their rows. -/
import Derived.Test.YtiiafhlckmkcnaaWc
namespace Go.Proofs.Ytiiafhlckmkcnaa
open Go.RowKit

/-- A thread's priority and coming; noughts, if it does not wait. -/
def rowOf : List W1 → Int → Int × Int
  | [], _ => (0, 0)
  | y :: r, t => if t = y.t then (y.p, y.c) else rowOf r t

theorem rowOf_lookup (L1 : List W1) (t : Int) : ((L1.map W1.row).lookup t).getD (.agg #[.int .i64 0, .int .i64 0]) = .agg #[.int .i64 (rowOf L1 t).1, .int .i64 (rowOf L1 t).2] := by
  induction L1 with
  | nil => rfl
  | cons y L1 ih =>
    simp only [List.map_cons, W1.row, List.lookup_cons]
    by_cases hc : t = y.t
    · simp [hc, rowOf]
    · have hc' : (t == y.t) = false := by simpa using hc
      simp only [hc', rowOf, hc, if_false]
      exact ih

theorem WIn.find0 {w : World} {ab mb : Nat} {n : Int} {L1 : List W1} (h : WIn w ab mb n L1) (t : Int) :
    (Instr.lookup 76 (.map (some mb)) (.int .i64 t) false).run Try.prog w = .ok (.agg #[.int .i64 (rowOf L1 t).1, .int .i64 (rowOf L1 t).2]) w := by
  have hr := run_lookup_P1 (P := Try.prog) Try.underlying76 Try.underlying3 (zeroOne w) h.map t
  rw [rowOf_lookup] at hr
  exact hr

/-- What is asked of a comparison of two rows. -/
def CmpOf (g : Nat) (cf : Int → Int → Int → Int → Int) : Prop :=
  ∀ p1 c1 p2 c2 w, Calls Try.prog g #[.agg #[.int .i64 p1, .int .i64 c1], .agg #[.int .i64 p2, .int .i64 c2]] w fun e w' => e = .returned (.int .i64 (cf p1 c1 p2 c2)) ∧ Grw w w'

def cfT (cf : Int → Int → Int → Int → Int) (L1 : List W1) (s t : Int) : Int := cf (rowOf L1 s).1 (rowOf L1 s).2 (rowOf L1 t).1 (rowOf L1 t).2

set_option maxRecDepth 100000 in
set_option maxHeartbeats 400000 in
theorem sorted1_any (g : Nat) (cf : Int → Int → Int → Int → Int) (hg : CmpOf g cf) (eg : ∀ args w, (callFunc g args).run Try.prog w = .ok (.enter g args) w) (bc bw ab mb : Nat) (n : Int) (L1 : List W1) (w : World)
    (hbc : w.cell? ⟨bc, 0, none⟩ = some (.func (.func g) #[] #[])) (hbw : w.cell? ⟨bw, 0, none⟩ = some (.pointer (some ⟨ab, 0, none⟩))) (hW : WIn w ab mb n L1) (s t : Int) :
    Calls Try.prog 71 #[.int .i64 s, .int .i64 t, .pointer (some ⟨bc, 0, none⟩), .pointer (some ⟨bw, 0, none⟩)] w fun e w' => e = .returned (.int .i64 (cfT cf L1 s t)) ∧ Grw w w' := by
  have c0 := cellB hW.head (i := 0) rfl
  have l1 := hW.drew.find0 s
  have l2 := hW.drew.find0 t
  unfold cfT
  have k := hg (rowOf L1 s).1 (rowOf L1 s).2 (rowOf L1 t).1 (rowOf L1 t).2
  generalize cf (rowOf L1 s).1 (rowOf L1 s).2 (rowOf L1 t).1 (rowOf L1 t).2 = r at k ⊢
  generalize (rowOf L1 s).1 = p1 at l1 k
  generalize (rowOf L1 s).2 = q1 at l1 k
  generalize (rowOf L1 t).1 = p2 at l2 k
  generalize (rowOf L1 t).2 = q2 at l2 k
  clear hW hg
  go_enter Try.func71, Try.ntmps71
  go_wp2
  refine region_still_tail 13 (by kernel_rfl) (by kernel_rfl) ?_
  simp only [List.take_succ_cons, List.take_zero, List.drop_succ_cons, List.drop_zero]
  repeat still_step
  refine wpStill_nil ?_
  go_wp2_with fail
  refine (k _).mono ?_
  rintro e w' ⟨rfl, hG⟩
  go_wp2
  go_ret
  exact ⟨rfl, ((Grw.refl w).drew).trans hG⟩

end Go.Proofs.Ytiiafhlckmkcnaa
