/-
  No cell of these rows narrows 'for every input' (looked for: loops, veiled, ifaces, maps, wideKeys, modest, calm, conditions, laid).
  DERIVED. THE GIVEN ROWS OF THIS SEAT. 4 by the template 'for every input the law returns true; each argument reads behind the call as it read before'; 0 by the template 'total and deterministic' (their statements: YtknngbnkcbcanaaTotals.lean).
  GIVEN WITH THE SEED: the statements are not yours to turn. If you find one false, say at which input.
  Laid BY PROGRAM, IN A SANDBOX (cutbox-rows.mjs): the forced cells as the released guide's own fill.sh prints them over the translation f1a1202a03789109… (all of the seat's roots in one cut). By AI agents, Wed Nov 11 2026. No macro, syntax, notation, axiom, sorry.
-/
import Derived.Test.YtknngbnkcbcanaaChecked
import GoSem.Claim
import GoSem.ClaimJoined
import GoSem.ClaimMapViews
import Derived.JoinedTies
import Derived.KernelRfl
namespace Go.Proofs.Ytknngbnkcbcanaa
/- THE CELL 'sum', in the pinned program and in every row, IS THE sha256 OF THE DUMP (.gsa) THAT YtknngbnkcbcanaaProg.lean LOADS. Nothing in Lean hashes anything: it is a label: what it is worth is what the hold of that sum in a sandbox is worth. -/
noncomputable def Try.pinned : Pinned := { name := "ytknngbnkcbcanaa", sum := "f1a1202a037891099117a386414b41a0d08bbcc6ec15a0ec9d6a9a0ee7bad0d0", checked := Try.checked }
namespace Rows
def none {H : Type} : Left H := { results := [], args := [] }

/-- 'metronomelaw14.SemCounts': WHATEVER THE INPUT: true; the input reads as it did. -/
def semCountsSpec : ChangeSpec := { name := "semCounts", fn := fun _ => fun
  | [d1, d2] => { results := [.lit (.bool true)], args := [d1, d2] }
  | _ => none }
def semCountsRow : OpenClaim := { program := "ytknngbnkcbcanaa", sum := "f1a1202a037891099117a386414b41a0d08bbcc6ec15a0ec9d6a9a0ee7bad0d0", func := "metronome/metronomelaw14.SemCounts", spec := "semCounts", unfollowed := true, recurses := true, apart := false }
def SemCountsSaid : Prop := semCountsRow.holds Try.pinned (OpenSpec.ofChange semCountsSpec)

/-- ITS FALSE NEIGHBOUR: 'it returns false'. Refute it at one input. -/
def semCountsWrong : ChangeSpec := { name := "semCounts", fn := fun _ => fun
  | [d1, d2] => { results := [.lit (.bool false)], args := [d1, d2] }
  | _ => none }
def SemCountsWrongFalsely : Prop := semCountsRow.holds Try.pinned (OpenSpec.ofChange semCountsWrong)

/-- 'metronomelaw14.SemSteps': WHATEVER THE INPUT: true; the input reads as it did. -/
def semStepsSpec : ChangeSpec := { name := "semSteps", fn := fun _ => fun
  | [d1, d2] => { results := [.lit (.bool true)], args := [d1, d2] }
  | _ => none }
def semStepsRow : OpenClaim := { program := "ytknngbnkcbcanaa", sum := "f1a1202a037891099117a386414b41a0d08bbcc6ec15a0ec9d6a9a0ee7bad0d0", func := "metronome/metronomelaw14.SemSteps", spec := "semSteps", unfollowed := true, recurses := true, apart := false }
def SemStepsSaid : Prop := semStepsRow.holds Try.pinned (OpenSpec.ofChange semStepsSpec)

/-- ITS FALSE NEIGHBOUR: 'it returns false'. Refute it at one input. -/
def semStepsWrong : ChangeSpec := { name := "semSteps", fn := fun _ => fun
  | [d1, d2] => { results := [.lit (.bool false)], args := [d1, d2] }
  | _ => none }
def SemStepsWrongFalsely : Prop := semStepsRow.holds Try.pinned (OpenSpec.ofChange semStepsWrong)

/-- 'metronomelaw14.SemBarriers': WHATEVER THE INPUT: true; the input reads as it did. -/
def semBarriersSpec : ChangeSpec := { name := "semBarriers", fn := fun _ => fun
  | [d1, d2] => { results := [.lit (.bool true)], args := [d1, d2] }
  | _ => none }
def semBarriersRow : OpenClaim := { program := "ytknngbnkcbcanaa", sum := "f1a1202a037891099117a386414b41a0d08bbcc6ec15a0ec9d6a9a0ee7bad0d0", func := "metronome/metronomelaw14.SemBarriers", spec := "semBarriers", unfollowed := true, recurses := true, apart := false }
def SemBarriersSaid : Prop := semBarriersRow.holds Try.pinned (OpenSpec.ofChange semBarriersSpec)

/-- ITS FALSE NEIGHBOUR: 'it returns false'. Refute it at one input. -/
def semBarriersWrong : ChangeSpec := { name := "semBarriers", fn := fun _ => fun
  | [d1, d2] => { results := [.lit (.bool false)], args := [d1, d2] }
  | _ => none }
def SemBarriersWrongFalsely : Prop := semBarriersRow.holds Try.pinned (OpenSpec.ofChange semBarriersWrong)

/-- 'metronomelaw14.SemNil': WHATEVER THE INPUT: true; the input reads as it did. -/
def semNilSpec : ChangeSpec := { name := "semNil", fn := fun _ => fun
  | [] => { results := [.lit (.bool true)], args := [] }
  | _ => none }
def semNilRow : OpenClaim := { program := "ytknngbnkcbcanaa", sum := "f1a1202a037891099117a386414b41a0d08bbcc6ec15a0ec9d6a9a0ee7bad0d0", func := "metronome/metronomelaw14.SemNil", spec := "semNil", unfollowed := true, recurses := true, apart := false }
def SemNilSaid : Prop := semNilRow.holds Try.pinned (OpenSpec.ofChange semNilSpec)

/-- ITS FALSE NEIGHBOUR: 'it returns false'. Refute it at one input. -/
def semNilWrong : ChangeSpec := { name := "semNil", fn := fun _ => fun
  | [] => { results := [.lit (.bool false)], args := [] }
  | _ => none }
def SemNilWrongFalsely : Prop := semNilRow.holds Try.pinned (OpenSpec.ofChange semNilWrong)

/- THE SECOND FORM. 'bulk': how many values and letters a reading holds, each counted each time it is reached (what is shared counts as often as it is met; a slice's spare places count too). A statement '..UptoSaid' is the law's where the arguments, and the package variables that the reading takes, are together of bulk at most 1048576: NARROWER than '..Said'. Prove '..Said' where nothing that the law and all that it calls make is longer than what came in: it says more and counts as full. Else prove '..UptoSaid'. A law counts once. -/
mutual
def uptoBulk {H : Type} : DataW H → Nat
  | .lit (.string bytes) => bytes.length + 1
  | .lit _ => 1
  | .nil => 1
  | .ptr d => uptoBulk d + 1
  | .slice elems spare => uptoBulkAll elems + uptoBulkAll spare + 1
  | .agg parts => uptoBulkAll parts + 1
  | .iface _ d => uptoBulk d + 1
  | .map entries => uptoBulkEntries entries + 1
  | .held _ => 1
def uptoBulkAll {H : Type} : List (DataW H) → Nat
  | [] => 0
  | d :: r => uptoBulk d + uptoBulkAll r
def uptoBulkEntries {H : Type} : List (Lit × DataW H) → Nat
  | [] => 0
  | x :: r => uptoBulkEntry x + uptoBulkEntries r
def uptoBulkEntry {H : Type} : Lit × DataW H → Nat
  | (.string bytes, d) => bytes.length + uptoBulk d + 1
  | (_, d) => uptoBulk d + 1
 end
def uptoSmall : (H : Type) → List (DataW H) → Bool := fun _ ds => decide (uptoBulkAll ds ≤ 1048576)
def OpenSpec.upto (s : _root_.Go.ChangeSpec) : _root_.Go.OpenSpec := { _root_.Go.OpenSpec.ofChange s with cond := some uptoSmall }

/-- 'metronomelaw14.SemCounts', WHERE WHAT IT READS IS OF BULK AT MOST 1048576: true; the input reads as it did. -/
def semCountsUptoRow : OpenClaim := { program := "ytknngbnkcbcanaa", sum := "f1a1202a037891099117a386414b41a0d08bbcc6ec15a0ec9d6a9a0ee7bad0d0", func := "metronome/metronomelaw14.SemCounts", spec := "semCounts", unfollowed := true, recurses := true, apart := false, narrowed := true }
def SemCountsUptoSaid : Prop := semCountsUptoRow.holds Try.pinned (OpenSpec.upto semCountsSpec)

/-- 'metronomelaw14.SemSteps', WHERE WHAT IT READS IS OF BULK AT MOST 1048576: true; the input reads as it did. -/
def semStepsUptoRow : OpenClaim := { program := "ytknngbnkcbcanaa", sum := "f1a1202a037891099117a386414b41a0d08bbcc6ec15a0ec9d6a9a0ee7bad0d0", func := "metronome/metronomelaw14.SemSteps", spec := "semSteps", unfollowed := true, recurses := true, apart := false, narrowed := true }
def SemStepsUptoSaid : Prop := semStepsUptoRow.holds Try.pinned (OpenSpec.upto semStepsSpec)

/-- 'metronomelaw14.SemBarriers', WHERE WHAT IT READS IS OF BULK AT MOST 1048576: true; the input reads as it did. -/
def semBarriersUptoRow : OpenClaim := { program := "ytknngbnkcbcanaa", sum := "f1a1202a037891099117a386414b41a0d08bbcc6ec15a0ec9d6a9a0ee7bad0d0", func := "metronome/metronomelaw14.SemBarriers", spec := "semBarriers", unfollowed := true, recurses := true, apart := false, narrowed := true }
def SemBarriersUptoSaid : Prop := semBarriersUptoRow.holds Try.pinned (OpenSpec.upto semBarriersSpec)

/-- 'metronomelaw14.SemNil', WHERE WHAT IT READS IS OF BULK AT MOST 1048576: true; the input reads as it did. -/
def semNilUptoRow : OpenClaim := { program := "ytknngbnkcbcanaa", sum := "f1a1202a037891099117a386414b41a0d08bbcc6ec15a0ec9d6a9a0ee7bad0d0", func := "metronome/metronomelaw14.SemNil", spec := "semNil", unfollowed := true, recurses := true, apart := false, narrowed := true }
def SemNilUptoSaid : Prop := semNilUptoRow.holds Try.pinned (OpenSpec.upto semNilSpec)

end Rows
end Go.Proofs.Ytknngbnkcbcanaa
