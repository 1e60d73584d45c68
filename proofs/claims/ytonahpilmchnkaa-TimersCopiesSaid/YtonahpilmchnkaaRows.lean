/-
  No cell of these rows narrows 'for every input' (looked for: loops, veiled, ifaces, maps, wideKeys, modest, calm, conditions, laid).
  DERIVED. THE GIVEN ROWS OF THIS SEAT. 5 by the template 'for every input the law returns true; each argument reads behind the call as it read before'; 0 by the template 'total and deterministic' (their statements: YtonahpilmchnkaaTotals.lean).
  GIVEN WITH THE SEED: the statements are not yours to turn. If you find one false, say at which input.
  Laid BY PROGRAM, IN A SANDBOX (cutbox-rows.mjs): the forced cells as the released guide's own fill.sh prints them over the translation 73954d038b60fd8a… (all of the seat's roots in one cut). By AI agents, Wed Nov 11 2026. No macro, syntax, notation, axiom, sorry.
-/
import Derived.Test.YtonahpilmchnkaaChecked
import GoSem.Claim
import GoSem.ClaimJoined
import GoSem.ClaimMapViews
import Derived.JoinedTies
import Derived.KernelRfl
namespace Go.Proofs.Ytonahpilmchnkaa
/- THE CELL 'sum', in the pinned program and in every row, IS THE sha256 OF THE DUMP (.gsa) THAT YtonahpilmchnkaaProg.lean LOADS. Nothing in Lean hashes anything: it is a label: what it is worth is what the hold of that sum in a sandbox is worth. -/
noncomputable def Try.pinned : Pinned := { name := "ytonahpilmchnkaa", sum := "73954d038b60fd8a8a52a10cb1d640bdd280ab759f04a5fa8b421be0e48c4c00", checked := Try.checked }
namespace Rows
def none {H : Type} : Left H := { results := [], args := [] }

/-- 'metronomelaw19.TimersTell': WHATEVER THE INPUT: true; the input reads as it did. -/
def timersTellSpec : ChangeSpec := { name := "timersTell", fn := fun _ => fun
  | [d1, d2, d3] => { results := [.lit (.bool true)], args := [d1, d2, d3] }
  | _ => none }
def timersTellRow : OpenClaim := { program := "ytonahpilmchnkaa", sum := "73954d038b60fd8a8a52a10cb1d640bdd280ab759f04a5fa8b421be0e48c4c00", func := "metronome/metronomelaw19.TimersTell", spec := "timersTell", unfollowed := true, recurses := true, apart := false }
def TimersTellSaid : Prop := timersTellRow.holds Try.pinned (OpenSpec.ofChange timersTellSpec)

/-- ITS FALSE NEIGHBOUR: 'it returns false'. Refute it at one input. -/
def timersTellWrong : ChangeSpec := { name := "timersTell", fn := fun _ => fun
  | [d1, d2, d3] => { results := [.lit (.bool false)], args := [d1, d2, d3] }
  | _ => none }
def TimersTellWrongFalsely : Prop := timersTellRow.holds Try.pinned (OpenSpec.ofChange timersTellWrong)

/-- 'metronomelaw19.TimersStop': WHATEVER THE INPUT: true; the input reads as it did. -/
def timersStopSpec : ChangeSpec := { name := "timersStop", fn := fun _ => fun
  | [d1, d2, d3, d4, d5] => { results := [.lit (.bool true)], args := [d1, d2, d3, d4, d5] }
  | _ => none }
def timersStopRow : OpenClaim := { program := "ytonahpilmchnkaa", sum := "73954d038b60fd8a8a52a10cb1d640bdd280ab759f04a5fa8b421be0e48c4c00", func := "metronome/metronomelaw19.TimersStop", spec := "timersStop", unfollowed := true, recurses := true, apart := false }
def TimersStopSaid : Prop := timersStopRow.holds Try.pinned (OpenSpec.ofChange timersStopSpec)

/-- ITS FALSE NEIGHBOUR: 'it returns false'. Refute it at one input. -/
def timersStopWrong : ChangeSpec := { name := "timersStop", fn := fun _ => fun
  | [d1, d2, d3, d4, d5] => { results := [.lit (.bool false)], args := [d1, d2, d3, d4, d5] }
  | _ => none }
def TimersStopWrongFalsely : Prop := timersStopRow.holds Try.pinned (OpenSpec.ofChange timersStopWrong)

/-- 'metronomelaw19.TimersPlay': WHATEVER THE INPUT: true; the input reads as it did. -/
def timersPlaySpec : ChangeSpec := { name := "timersPlay", fn := fun _ => fun
  | [d1, d2] => { results := [.lit (.bool true)], args := [d1, d2] }
  | _ => none }
def timersPlayRow : OpenClaim := { program := "ytonahpilmchnkaa", sum := "73954d038b60fd8a8a52a10cb1d640bdd280ab759f04a5fa8b421be0e48c4c00", func := "metronome/metronomelaw19.TimersPlay", spec := "timersPlay", unfollowed := true, recurses := true, apart := false }
def TimersPlaySaid : Prop := timersPlayRow.holds Try.pinned (OpenSpec.ofChange timersPlaySpec)

/-- ITS FALSE NEIGHBOUR: 'it returns false'. Refute it at one input. -/
def timersPlayWrong : ChangeSpec := { name := "timersPlay", fn := fun _ => fun
  | [d1, d2] => { results := [.lit (.bool false)], args := [d1, d2] }
  | _ => none }
def TimersPlayWrongFalsely : Prop := timersPlayRow.holds Try.pinned (OpenSpec.ofChange timersPlayWrong)

/-- 'metronomelaw19.TimersCopies': WHATEVER THE INPUT: true; the input reads as it did. -/
def timersCopiesSpec : ChangeSpec := { name := "timersCopies", fn := fun _ => fun
  | [d1, d2, d3] => { results := [.lit (.bool true)], args := [d1, d2, d3] }
  | _ => none }
def timersCopiesRow : OpenClaim := { program := "ytonahpilmchnkaa", sum := "73954d038b60fd8a8a52a10cb1d640bdd280ab759f04a5fa8b421be0e48c4c00", func := "metronome/metronomelaw19.TimersCopies", spec := "timersCopies", unfollowed := true, recurses := true, apart := false }
def TimersCopiesSaid : Prop := timersCopiesRow.holds Try.pinned (OpenSpec.ofChange timersCopiesSpec)

/-- ITS FALSE NEIGHBOUR: 'it returns false'. Refute it at one input. -/
def timersCopiesWrong : ChangeSpec := { name := "timersCopies", fn := fun _ => fun
  | [d1, d2, d3] => { results := [.lit (.bool false)], args := [d1, d2, d3] }
  | _ => none }
def TimersCopiesWrongFalsely : Prop := timersCopiesRow.holds Try.pinned (OpenSpec.ofChange timersCopiesWrong)

/-- 'metronomelaw19.TimersNil': WHATEVER THE INPUT: true; the input reads as it did. -/
def timersNilSpec : ChangeSpec := { name := "timersNil", fn := fun _ => fun
  | [] => { results := [.lit (.bool true)], args := [] }
  | _ => none }
def timersNilRow : OpenClaim := { program := "ytonahpilmchnkaa", sum := "73954d038b60fd8a8a52a10cb1d640bdd280ab759f04a5fa8b421be0e48c4c00", func := "metronome/metronomelaw19.TimersNil", spec := "timersNil", unfollowed := true, recurses := true, apart := false }
def TimersNilSaid : Prop := timersNilRow.holds Try.pinned (OpenSpec.ofChange timersNilSpec)

/-- ITS FALSE NEIGHBOUR: 'it returns false'. Refute it at one input. -/
def timersNilWrong : ChangeSpec := { name := "timersNil", fn := fun _ => fun
  | [] => { results := [.lit (.bool false)], args := [] }
  | _ => none }
def TimersNilWrongFalsely : Prop := timersNilRow.holds Try.pinned (OpenSpec.ofChange timersNilWrong)

/- THE SECOND FORM. 'bulk': how many values and letters a reading holds, each counted each time it is reached (what is shared counts as often as it is met; a slice's spare places count too). A statement '..UptoSaid' is the law's where the arguments, and the package variables that the reading takes, are together of bulk at most 1048576: NARROWER than '..Said'. Prove '..Said' where nothing that the law and all that it calls make is longer than what came in: it says more and counts as full. Else prove '..UptoSaid'. A law counts once. -/
mutual
def uptoBulk {H : Type} : DataW H → Nat
  | .lit (.string bytes) => bytes.length + 1
  | .lit _ => 1
  | .nil => 1
  | .ptr d => uptoBulk d + 1
  | .slice elems spare => uptoBulkAll elems + uptoBulkAll spare + 1
  | .agg parts => uptoBulkAll parts + 1
  | .iface _ d => uptoBulk d + 1
  | .map entries => uptoBulkEntries entries + 1
  | .held _ => 1
def uptoBulkAll {H : Type} : List (DataW H) → Nat
  | [] => 0
  | d :: r => uptoBulk d + uptoBulkAll r
def uptoBulkEntries {H : Type} : List (Lit × DataW H) → Nat
  | [] => 0
  | x :: r => uptoBulkEntry x + uptoBulkEntries r
def uptoBulkEntry {H : Type} : Lit × DataW H → Nat
  | (.string bytes, d) => bytes.length + uptoBulk d + 1
  | (_, d) => uptoBulk d + 1
 end
def uptoSmall : (H : Type) → List (DataW H) → Bool := fun _ ds => decide (uptoBulkAll ds ≤ 1048576)
def OpenSpec.upto (s : _root_.Go.ChangeSpec) : _root_.Go.OpenSpec := { _root_.Go.OpenSpec.ofChange s with cond := some uptoSmall }

/-- 'metronomelaw19.TimersTell', WHERE WHAT IT READS IS OF BULK AT MOST 1048576: true; the input reads as it did. -/
def timersTellUptoRow : OpenClaim := { program := "ytonahpilmchnkaa", sum := "73954d038b60fd8a8a52a10cb1d640bdd280ab759f04a5fa8b421be0e48c4c00", func := "metronome/metronomelaw19.TimersTell", spec := "timersTell", unfollowed := true, recurses := true, apart := false, narrowed := true }
def TimersTellUptoSaid : Prop := timersTellUptoRow.holds Try.pinned (OpenSpec.upto timersTellSpec)

/-- 'metronomelaw19.TimersStop', WHERE WHAT IT READS IS OF BULK AT MOST 1048576: true; the input reads as it did. -/
def timersStopUptoRow : OpenClaim := { program := "ytonahpilmchnkaa", sum := "73954d038b60fd8a8a52a10cb1d640bdd280ab759f04a5fa8b421be0e48c4c00", func := "metronome/metronomelaw19.TimersStop", spec := "timersStop", unfollowed := true, recurses := true, apart := false, narrowed := true }
def TimersStopUptoSaid : Prop := timersStopUptoRow.holds Try.pinned (OpenSpec.upto timersStopSpec)

/-- 'metronomelaw19.TimersPlay', WHERE WHAT IT READS IS OF BULK AT MOST 1048576: true; the input reads as it did. -/
def timersPlayUptoRow : OpenClaim := { program := "ytonahpilmchnkaa", sum := "73954d038b60fd8a8a52a10cb1d640bdd280ab759f04a5fa8b421be0e48c4c00", func := "metronome/metronomelaw19.TimersPlay", spec := "timersPlay", unfollowed := true, recurses := true, apart := false, narrowed := true }
def TimersPlayUptoSaid : Prop := timersPlayUptoRow.holds Try.pinned (OpenSpec.upto timersPlaySpec)

/-- 'metronomelaw19.TimersCopies', WHERE WHAT IT READS IS OF BULK AT MOST 1048576: true; the input reads as it did. -/
def timersCopiesUptoRow : OpenClaim := { program := "ytonahpilmchnkaa", sum := "73954d038b60fd8a8a52a10cb1d640bdd280ab759f04a5fa8b421be0e48c4c00", func := "metronome/metronomelaw19.TimersCopies", spec := "timersCopies", unfollowed := true, recurses := true, apart := false, narrowed := true }
def TimersCopiesUptoSaid : Prop := timersCopiesUptoRow.holds Try.pinned (OpenSpec.upto timersCopiesSpec)

/-- 'metronomelaw19.TimersNil', WHERE WHAT IT READS IS OF BULK AT MOST 1048576: true; the input reads as it did. -/
def timersNilUptoRow : OpenClaim := { program := "ytonahpilmchnkaa", sum := "73954d038b60fd8a8a52a10cb1d640bdd280ab759f04a5fa8b421be0e48c4c00", func := "metronome/metronomelaw19.TimersNil", spec := "timersNil", unfollowed := true, recurses := true, apart := false, narrowed := true }
def TimersNilUptoSaid : Prop := timersNilUptoRow.holds Try.pinned (OpenSpec.upto timersNilSpec)

end Rows
end Go.Proofs.Ytonahpilmchnkaa
