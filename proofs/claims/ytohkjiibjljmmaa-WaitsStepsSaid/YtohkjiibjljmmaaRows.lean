/-
  No cell of these rows narrows 'for every input' (looked for: loops, veiled, ifaces, maps, wideKeys, modest, calm, conditions, laid).
  DERIVED. THE GIVEN ROWS OF THIS SEAT. 3 by the template 'for every input the law returns true; each argument reads behind the call as it read before'; 0 by the template 'total and deterministic' (their statements: YtohkjiibjljmmaaTotals.lean).
  GIVEN WITH THE SEED: the statements are not yours to turn. If you find one false, say at which input.
  Laid BY PROGRAM, IN A SANDBOX (cutbox-rows.mjs): the forced cells as the released guide's own fill.sh prints them over the translation 9c66af8465749a29… (all of the seat's roots in one cut). By AI agents, Wed Nov 11 2026. No macro, syntax, notation, axiom, sorry.
-/
import Derived.Test.YtohkjiibjljmmaaChecked
import GoSem.Claim
import GoSem.ClaimJoined
import GoSem.ClaimMapViews
import Derived.JoinedTies
import Derived.KernelRfl
namespace Go.Proofs.Ytohkjiibjljmmaa
/- THE CELL 'sum', in the pinned program and in every row, IS THE sha256 OF THE DUMP (.gsa) THAT YtohkjiibjljmmaaProg.lean LOADS. Nothing in Lean hashes anything: it is a label: what it is worth is what the hold of that sum in a sandbox is worth. -/
noncomputable def Try.pinned : Pinned := { name := "ytohkjiibjljmmaa", sum := "9c66af8465749a296f169310a8b48d1af094eb3608f9bac050ae5c70ec281e23", checked := Try.checked }
namespace Rows
def none {H : Type} : Left H := { results := [], args := [] }

/-- 'metronomelaw09.WaitsTake': WHATEVER THE INPUT: true; the input reads as it did. -/
def waitsTakeSpec : ChangeSpec := { name := "waitsTake", fn := fun _ => fun
  | [d] => { results := [.lit (.bool true)], args := [d] }
  | _ => none }
def waitsTakeRow : OpenClaim := { program := "ytohkjiibjljmmaa", sum := "9c66af8465749a296f169310a8b48d1af094eb3608f9bac050ae5c70ec281e23", func := "metronome/metronomelaw09.WaitsTake", spec := "waitsTake", unfollowed := true, recurses := true, apart := false }
def WaitsTakeSaid : Prop := waitsTakeRow.holds Try.pinned (OpenSpec.ofChange waitsTakeSpec)

/-- ITS FALSE NEIGHBOUR: 'it returns false'. Refute it at one input. -/
def waitsTakeWrong : ChangeSpec := { name := "waitsTake", fn := fun _ => fun
  | [d] => { results := [.lit (.bool false)], args := [d] }
  | _ => none }
def WaitsTakeWrongFalsely : Prop := waitsTakeRow.holds Try.pinned (OpenSpec.ofChange waitsTakeWrong)

/-- 'metronomelaw09.WaitsSame': WHATEVER THE INPUT: true; the input reads as it did. -/
def waitsSameSpec : ChangeSpec := { name := "waitsSame", fn := fun _ => fun
  | [d1, d2] => { results := [.lit (.bool true)], args := [d1, d2] }
  | _ => none }
def waitsSameRow : OpenClaim := { program := "ytohkjiibjljmmaa", sum := "9c66af8465749a296f169310a8b48d1af094eb3608f9bac050ae5c70ec281e23", func := "metronome/metronomelaw09.WaitsSame", spec := "waitsSame", unfollowed := true, recurses := true, apart := false }
def WaitsSameSaid : Prop := waitsSameRow.holds Try.pinned (OpenSpec.ofChange waitsSameSpec)

/-- ITS FALSE NEIGHBOUR: 'it returns false'. Refute it at one input. -/
def waitsSameWrong : ChangeSpec := { name := "waitsSame", fn := fun _ => fun
  | [d1, d2] => { results := [.lit (.bool false)], args := [d1, d2] }
  | _ => none }
def WaitsSameWrongFalsely : Prop := waitsSameRow.holds Try.pinned (OpenSpec.ofChange waitsSameWrong)

/-- 'metronomelaw09.WaitsSteps': WHATEVER THE INPUT: true; the input reads as it did. -/
def waitsStepsSpec : ChangeSpec := { name := "waitsSteps", fn := fun _ => fun
  | [d1, d2] => { results := [.lit (.bool true)], args := [d1, d2] }
  | _ => none }
def waitsStepsRow : OpenClaim := { program := "ytohkjiibjljmmaa", sum := "9c66af8465749a296f169310a8b48d1af094eb3608f9bac050ae5c70ec281e23", func := "metronome/metronomelaw09.WaitsSteps", spec := "waitsSteps", unfollowed := true, recurses := true, apart := false }
def WaitsStepsSaid : Prop := waitsStepsRow.holds Try.pinned (OpenSpec.ofChange waitsStepsSpec)

/-- ITS FALSE NEIGHBOUR: 'it returns false'. Refute it at one input. -/
def waitsStepsWrong : ChangeSpec := { name := "waitsSteps", fn := fun _ => fun
  | [d1, d2] => { results := [.lit (.bool false)], args := [d1, d2] }
  | _ => none }
def WaitsStepsWrongFalsely : Prop := waitsStepsRow.holds Try.pinned (OpenSpec.ofChange waitsStepsWrong)

/- THE SECOND FORM. 'bulk': how many values and letters a reading holds, each counted each time it is reached (what is shared counts as often as it is met; a slice's spare places count too). A statement '..UptoSaid' is the law's where the arguments, and the package variables that the reading takes, are together of bulk at most 1048576: NARROWER than '..Said'. Prove '..Said' where nothing that the law and all that it calls make is longer than what came in: it says more and counts as full. Else prove '..UptoSaid'. A law counts once. -/
mutual
def uptoBulk {H : Type} : DataW H → Nat
  | .lit (.string bytes) => bytes.length + 1
  | .lit _ => 1
  | .nil => 1
  | .ptr d => uptoBulk d + 1
  | .slice elems spare => uptoBulkAll elems + uptoBulkAll spare + 1
  | .agg parts => uptoBulkAll parts + 1
  | .iface _ d => uptoBulk d + 1
  | .map entries => uptoBulkEntries entries + 1
  | .held _ => 1
def uptoBulkAll {H : Type} : List (DataW H) → Nat
  | [] => 0
  | d :: r => uptoBulk d + uptoBulkAll r
def uptoBulkEntries {H : Type} : List (Lit × DataW H) → Nat
  | [] => 0
  | x :: r => uptoBulkEntry x + uptoBulkEntries r
def uptoBulkEntry {H : Type} : Lit × DataW H → Nat
  | (.string bytes, d) => bytes.length + uptoBulk d + 1
  | (_, d) => uptoBulk d + 1
 end
def uptoSmall : (H : Type) → List (DataW H) → Bool := fun _ ds => decide (uptoBulkAll ds ≤ 1048576)
def OpenSpec.upto (s : _root_.Go.ChangeSpec) : _root_.Go.OpenSpec := { _root_.Go.OpenSpec.ofChange s with cond := some uptoSmall }

/-- 'metronomelaw09.WaitsTake', WHERE WHAT IT READS IS OF BULK AT MOST 1048576: true; the input reads as it did. -/
def waitsTakeUptoRow : OpenClaim := { program := "ytohkjiibjljmmaa", sum := "9c66af8465749a296f169310a8b48d1af094eb3608f9bac050ae5c70ec281e23", func := "metronome/metronomelaw09.WaitsTake", spec := "waitsTake", unfollowed := true, recurses := true, apart := false, narrowed := true }
def WaitsTakeUptoSaid : Prop := waitsTakeUptoRow.holds Try.pinned (OpenSpec.upto waitsTakeSpec)

/-- 'metronomelaw09.WaitsSame', WHERE WHAT IT READS IS OF BULK AT MOST 1048576: true; the input reads as it did. -/
def waitsSameUptoRow : OpenClaim := { program := "ytohkjiibjljmmaa", sum := "9c66af8465749a296f169310a8b48d1af094eb3608f9bac050ae5c70ec281e23", func := "metronome/metronomelaw09.WaitsSame", spec := "waitsSame", unfollowed := true, recurses := true, apart := false, narrowed := true }
def WaitsSameUptoSaid : Prop := waitsSameUptoRow.holds Try.pinned (OpenSpec.upto waitsSameSpec)

/-- 'metronomelaw09.WaitsSteps', WHERE WHAT IT READS IS OF BULK AT MOST 1048576: true; the input reads as it did. -/
def waitsStepsUptoRow : OpenClaim := { program := "ytohkjiibjljmmaa", sum := "9c66af8465749a296f169310a8b48d1af094eb3608f9bac050ae5c70ec281e23", func := "metronome/metronomelaw09.WaitsSteps", spec := "waitsSteps", unfollowed := true, recurses := true, apart := false, narrowed := true }
def WaitsStepsUptoSaid : Prop := waitsStepsUptoRow.holds Try.pinned (OpenSpec.upto waitsStepsSpec)

end Rows
end Go.Proofs.Ytohkjiibjljmmaa
