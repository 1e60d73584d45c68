/-
  No cell of these rows narrows 'for every input' (looked for: loops, veiled, ifaces, maps, wideKeys, modest, calm, conditions, laid).
  DERIVED. THE GIVEN ROWS OF THIS SEAT. 4 by the template 'for every input the law returns true; each argument reads behind the call as it read before'; 0 by the template 'total and deterministic' (their statements: YtjdefbkppjdokaaTotals.lean).
  GIVEN WITH THE SEED: the statements are not yours to turn. If you find one false, say at which input.
  Laid BY PROGRAM, IN A SANDBOX (cutbox-rows.mjs): the forced cells as the released guide's own fill.sh prints them over the translation 716227f89aa529ca… (all of the seat's roots in one cut). By AI agents, Wed Nov 11 2026. No macro, syntax, notation, axiom, sorry.
-/
import Derived.Test.YtjdefbkppjdokaaChecked
import GoSem.Claim
import GoSem.ClaimJoined
import GoSem.ClaimMapViews
import Derived.JoinedTies
import Derived.KernelRfl
namespace Go.Proofs.Ytjdefbkppjdokaa
/- THE CELL 'sum', in the pinned program and in every row, IS THE sha256 OF THE DUMP (.gsa) THAT YtjdefbkppjdokaaProg.lean LOADS. Nothing in Lean hashes anything: it is a label: what it is worth is what the hold of that sum in a sandbox is worth. -/
noncomputable def Try.pinned : Pinned := { name := "ytjdefbkppjdokaa", sum := "716227f89aa529ca18f4a23520eee4e39e0c8e1e1e8d19aa0233e9eda60a36e0", checked := Try.checked }
namespace Rows
def none {H : Type} : Left H := { results := [], args := [] }

/-- 'metronomelaw16.CondWakes': WHATEVER THE INPUT: true; the input reads as it did. -/
def condWakesSpec : ChangeSpec := { name := "condWakes", fn := fun _ => fun
  | [d] => { results := [.lit (.bool true)], args := [d] }
  | _ => none }
def condWakesRow : OpenClaim := { program := "ytjdefbkppjdokaa", sum := "716227f89aa529ca18f4a23520eee4e39e0c8e1e1e8d19aa0233e9eda60a36e0", func := "metronome/metronomelaw16.CondWakes", spec := "condWakes", unfollowed := true, recurses := true, apart := false }
def CondWakesSaid : Prop := condWakesRow.holds Try.pinned (OpenSpec.ofChange condWakesSpec)

/-- ITS FALSE NEIGHBOUR: 'it returns false'. Refute it at one input. -/
def condWakesWrong : ChangeSpec := { name := "condWakes", fn := fun _ => fun
  | [d] => { results := [.lit (.bool false)], args := [d] }
  | _ => none }
def CondWakesWrongFalsely : Prop := condWakesRow.holds Try.pinned (OpenSpec.ofChange condWakesWrong)

/-- 'metronomelaw16.CondSame': WHATEVER THE INPUT: true; the input reads as it did. -/
def condSameSpec : ChangeSpec := { name := "condSame", fn := fun _ => fun
  | [d1, d2] => { results := [.lit (.bool true)], args := [d1, d2] }
  | _ => none }
def condSameRow : OpenClaim := { program := "ytjdefbkppjdokaa", sum := "716227f89aa529ca18f4a23520eee4e39e0c8e1e1e8d19aa0233e9eda60a36e0", func := "metronome/metronomelaw16.CondSame", spec := "condSame", unfollowed := true, recurses := true, apart := false }
def CondSameSaid : Prop := condSameRow.holds Try.pinned (OpenSpec.ofChange condSameSpec)

/-- ITS FALSE NEIGHBOUR: 'it returns false'. Refute it at one input. -/
def condSameWrong : ChangeSpec := { name := "condSame", fn := fun _ => fun
  | [d1, d2] => { results := [.lit (.bool false)], args := [d1, d2] }
  | _ => none }
def CondSameWrongFalsely : Prop := condSameRow.holds Try.pinned (OpenSpec.ofChange condSameWrong)

/-- 'metronomelaw16.CondSteps': WHATEVER THE INPUT: true; the input reads as it did. -/
def condStepsSpec : ChangeSpec := { name := "condSteps", fn := fun _ => fun
  | [d] => { results := [.lit (.bool true)], args := [d] }
  | _ => none }
def condStepsRow : OpenClaim := { program := "ytjdefbkppjdokaa", sum := "716227f89aa529ca18f4a23520eee4e39e0c8e1e1e8d19aa0233e9eda60a36e0", func := "metronome/metronomelaw16.CondSteps", spec := "condSteps", unfollowed := true, recurses := true, apart := false }
def CondStepsSaid : Prop := condStepsRow.holds Try.pinned (OpenSpec.ofChange condStepsSpec)

/-- ITS FALSE NEIGHBOUR: 'it returns false'. Refute it at one input. -/
def condStepsWrong : ChangeSpec := { name := "condSteps", fn := fun _ => fun
  | [d] => { results := [.lit (.bool false)], args := [d] }
  | _ => none }
def CondStepsWrongFalsely : Prop := condStepsRow.holds Try.pinned (OpenSpec.ofChange condStepsWrong)

/-- 'metronomelaw16.CondNil': WHATEVER THE INPUT: true; the input reads as it did. -/
def condNilSpec : ChangeSpec := { name := "condNil", fn := fun _ => fun
  | [] => { results := [.lit (.bool true)], args := [] }
  | _ => none }
def condNilRow : OpenClaim := { program := "ytjdefbkppjdokaa", sum := "716227f89aa529ca18f4a23520eee4e39e0c8e1e1e8d19aa0233e9eda60a36e0", func := "metronome/metronomelaw16.CondNil", spec := "condNil", unfollowed := true, recurses := true, apart := false }
def CondNilSaid : Prop := condNilRow.holds Try.pinned (OpenSpec.ofChange condNilSpec)

/-- ITS FALSE NEIGHBOUR: 'it returns false'. Refute it at one input. -/
def condNilWrong : ChangeSpec := { name := "condNil", fn := fun _ => fun
  | [] => { results := [.lit (.bool false)], args := [] }
  | _ => none }
def CondNilWrongFalsely : Prop := condNilRow.holds Try.pinned (OpenSpec.ofChange condNilWrong)

/- THE SECOND FORM. 'bulk': how many values and letters a reading holds, each counted each time it is reached (what is shared counts as often as it is met; a slice's spare places count too). A statement '..UptoSaid' is the law's where the arguments, and the package variables that the reading takes, are together of bulk at most 1048576: NARROWER than '..Said'. Prove '..Said' where nothing that the law and all that it calls make is longer than what came in: it says more and counts as full. Else prove '..UptoSaid'. A law counts once. -/
mutual
def uptoBulk {H : Type} : DataW H → Nat
  | .lit (.string bytes) => bytes.length + 1
  | .lit _ => 1
  | .nil => 1
  | .ptr d => uptoBulk d + 1
  | .slice elems spare => uptoBulkAll elems + uptoBulkAll spare + 1
  | .agg parts => uptoBulkAll parts + 1
  | .iface _ d => uptoBulk d + 1
  | .map entries => uptoBulkEntries entries + 1
  | .held _ => 1
def uptoBulkAll {H : Type} : List (DataW H) → Nat
  | [] => 0
  | d :: r => uptoBulk d + uptoBulkAll r
def uptoBulkEntries {H : Type} : List (Lit × DataW H) → Nat
  | [] => 0
  | x :: r => uptoBulkEntry x + uptoBulkEntries r
def uptoBulkEntry {H : Type} : Lit × DataW H → Nat
  | (.string bytes, d) => bytes.length + uptoBulk d + 1
  | (_, d) => uptoBulk d + 1
 end
def uptoSmall : (H : Type) → List (DataW H) → Bool := fun _ ds => decide (uptoBulkAll ds ≤ 1048576)
def OpenSpec.upto (s : _root_.Go.ChangeSpec) : _root_.Go.OpenSpec := { _root_.Go.OpenSpec.ofChange s with cond := some uptoSmall }

/-- 'metronomelaw16.CondWakes', WHERE WHAT IT READS IS OF BULK AT MOST 1048576: true; the input reads as it did. -/
def condWakesUptoRow : OpenClaim := { program := "ytjdefbkppjdokaa", sum := "716227f89aa529ca18f4a23520eee4e39e0c8e1e1e8d19aa0233e9eda60a36e0", func := "metronome/metronomelaw16.CondWakes", spec := "condWakes", unfollowed := true, recurses := true, apart := false, narrowed := true }
def CondWakesUptoSaid : Prop := condWakesUptoRow.holds Try.pinned (OpenSpec.upto condWakesSpec)

/-- 'metronomelaw16.CondSame', WHERE WHAT IT READS IS OF BULK AT MOST 1048576: true; the input reads as it did. -/
def condSameUptoRow : OpenClaim := { program := "ytjdefbkppjdokaa", sum := "716227f89aa529ca18f4a23520eee4e39e0c8e1e1e8d19aa0233e9eda60a36e0", func := "metronome/metronomelaw16.CondSame", spec := "condSame", unfollowed := true, recurses := true, apart := false, narrowed := true }
def CondSameUptoSaid : Prop := condSameUptoRow.holds Try.pinned (OpenSpec.upto condSameSpec)

/-- 'metronomelaw16.CondSteps', WHERE WHAT IT READS IS OF BULK AT MOST 1048576: true; the input reads as it did. -/
def condStepsUptoRow : OpenClaim := { program := "ytjdefbkppjdokaa", sum := "716227f89aa529ca18f4a23520eee4e39e0c8e1e1e8d19aa0233e9eda60a36e0", func := "metronome/metronomelaw16.CondSteps", spec := "condSteps", unfollowed := true, recurses := true, apart := false, narrowed := true }
def CondStepsUptoSaid : Prop := condStepsUptoRow.holds Try.pinned (OpenSpec.upto condStepsSpec)

/-- 'metronomelaw16.CondNil', WHERE WHAT IT READS IS OF BULK AT MOST 1048576: true; the input reads as it did. -/
def condNilUptoRow : OpenClaim := { program := "ytjdefbkppjdokaa", sum := "716227f89aa529ca18f4a23520eee4e39e0c8e1e1e8d19aa0233e9eda60a36e0", func := "metronome/metronomelaw16.CondNil", spec := "condNil", unfollowed := true, recurses := true, apart := false, narrowed := true }
def CondNilUptoSaid : Prop := condNilUptoRow.holds Try.pinned (OpenSpec.upto condNilSpec)

end Rows
end Go.Proofs.Ytjdefbkppjdokaa
