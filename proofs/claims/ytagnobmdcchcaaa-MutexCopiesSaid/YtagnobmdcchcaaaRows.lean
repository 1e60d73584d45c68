/-
  No cell of these rows narrows 'for every input' (looked for: loops, veiled, ifaces, maps, wideKeys, modest, calm, conditions, laid).
  DERIVED. THE GIVEN ROWS OF THIS SEAT. 7 by the template 'for every input the law returns true; each argument reads behind the call as it read before'; 0 by the template 'total and deterministic' (their statements: YtagnobmdcchcaaaTotals.lean).
  GIVEN WITH THE SEED: the statements are not yours to turn. If you find one false, say at which input.
  Laid BY PROGRAM, IN A SANDBOX (cutbox-rows.mjs): the forced cells as the released guide's own fill.sh prints them over the translation d7afc2e362d31c4f… (all of the seat's roots in one cut). By AI agents, Wed Nov 11 2026. No macro, syntax, notation, axiom, sorry.
-/
import Derived.Test.YtagnobmdcchcaaaChecked
import GoSem.Claim
import GoSem.ClaimJoined
import GoSem.ClaimMapViews
import Derived.JoinedTies
import Derived.KernelRfl
namespace Go.Proofs.Ytagnobmdcchcaaa
/- THE CELL 'sum', in the pinned program and in every row, IS THE sha256 OF THE DUMP (.gsa) THAT YtagnobmdcchcaaaProg.lean LOADS. Nothing in Lean hashes anything: it is a label: what it is worth is what the hold of that sum in a sandbox is worth. -/
noncomputable def Try.pinned : Pinned := { name := "ytagnobmdcchcaaa", sum := "d7afc2e362d31c4ff7fc0341d971dbc4a7d13b8ef784028d8d2acefa8e57f7e4", checked := Try.checked }
namespace Rows
def none {H : Type} : Left H := { results := [], args := [] }

/-- 'metronomelaw13.MutexOrder': WHATEVER THE INPUT: true; the input reads as it did. -/
def mutexOrderSpec : ChangeSpec := { name := "mutexOrder", fn := fun _ => fun
  | [d1, d2, d3, d4] => { results := [.lit (.bool true)], args := [d1, d2, d3, d4] }
  | _ => none }
def mutexOrderRow : OpenClaim := { program := "ytagnobmdcchcaaa", sum := "d7afc2e362d31c4ff7fc0341d971dbc4a7d13b8ef784028d8d2acefa8e57f7e4", func := "metronome/metronomelaw13.MutexOrder", spec := "mutexOrder", unfollowed := true, recurses := true, apart := false }
def MutexOrderSaid : Prop := mutexOrderRow.holds Try.pinned (OpenSpec.ofChange mutexOrderSpec)

/-- ITS FALSE NEIGHBOUR: 'it returns false'. Refute it at one input. -/
def mutexOrderWrong : ChangeSpec := { name := "mutexOrder", fn := fun _ => fun
  | [d1, d2, d3, d4] => { results := [.lit (.bool false)], args := [d1, d2, d3, d4] }
  | _ => none }
def MutexOrderWrongFalsely : Prop := mutexOrderRow.holds Try.pinned (OpenSpec.ofChange mutexOrderWrong)

/-- 'metronomelaw13.MutexCounts': WHATEVER THE INPUT: true; the input reads as it did. -/
def mutexCountsSpec : ChangeSpec := { name := "mutexCounts", fn := fun _ => fun
  | [d1, d2] => { results := [.lit (.bool true)], args := [d1, d2] }
  | _ => none }
def mutexCountsRow : OpenClaim := { program := "ytagnobmdcchcaaa", sum := "d7afc2e362d31c4ff7fc0341d971dbc4a7d13b8ef784028d8d2acefa8e57f7e4", func := "metronome/metronomelaw13.MutexCounts", spec := "mutexCounts", unfollowed := true, recurses := true, apart := false }
def MutexCountsSaid : Prop := mutexCountsRow.holds Try.pinned (OpenSpec.ofChange mutexCountsSpec)

/-- ITS FALSE NEIGHBOUR: 'it returns false'. Refute it at one input. -/
def mutexCountsWrong : ChangeSpec := { name := "mutexCounts", fn := fun _ => fun
  | [d1, d2] => { results := [.lit (.bool false)], args := [d1, d2] }
  | _ => none }
def MutexCountsWrongFalsely : Prop := mutexCountsRow.holds Try.pinned (OpenSpec.ofChange mutexCountsWrong)

/-- 'metronomelaw13.MutexDead': WHATEVER THE INPUT: true; the input reads as it did. -/
def mutexDeadSpec : ChangeSpec := { name := "mutexDead", fn := fun _ => fun
  | [d1, d2] => { results := [.lit (.bool true)], args := [d1, d2] }
  | _ => none }
def mutexDeadRow : OpenClaim := { program := "ytagnobmdcchcaaa", sum := "d7afc2e362d31c4ff7fc0341d971dbc4a7d13b8ef784028d8d2acefa8e57f7e4", func := "metronome/metronomelaw13.MutexDead", spec := "mutexDead", unfollowed := true, recurses := true, apart := false }
def MutexDeadSaid : Prop := mutexDeadRow.holds Try.pinned (OpenSpec.ofChange mutexDeadSpec)

/-- ITS FALSE NEIGHBOUR: 'it returns false'. Refute it at one input. -/
def mutexDeadWrong : ChangeSpec := { name := "mutexDead", fn := fun _ => fun
  | [d1, d2] => { results := [.lit (.bool false)], args := [d1, d2] }
  | _ => none }
def MutexDeadWrongFalsely : Prop := mutexDeadRow.holds Try.pinned (OpenSpec.ofChange mutexDeadWrong)

/-- 'metronomelaw13.MutexFree': WHATEVER THE INPUT: true; the input reads as it did. -/
def mutexFreeSpec : ChangeSpec := { name := "mutexFree", fn := fun _ => fun
  | [d1, d2, d3, d4, d5] => { results := [.lit (.bool true)], args := [d1, d2, d3, d4, d5] }
  | _ => none }
def mutexFreeRow : OpenClaim := { program := "ytagnobmdcchcaaa", sum := "d7afc2e362d31c4ff7fc0341d971dbc4a7d13b8ef784028d8d2acefa8e57f7e4", func := "metronome/metronomelaw13.MutexFree", spec := "mutexFree", unfollowed := true, recurses := true, apart := false }
def MutexFreeSaid : Prop := mutexFreeRow.holds Try.pinned (OpenSpec.ofChange mutexFreeSpec)

/-- ITS FALSE NEIGHBOUR: 'it returns false'. Refute it at one input. -/
def mutexFreeWrong : ChangeSpec := { name := "mutexFree", fn := fun _ => fun
  | [d1, d2, d3, d4, d5] => { results := [.lit (.bool false)], args := [d1, d2, d3, d4, d5] }
  | _ => none }
def MutexFreeWrongFalsely : Prop := mutexFreeRow.holds Try.pinned (OpenSpec.ofChange mutexFreeWrong)

/-- 'metronomelaw13.MutexPlays': WHATEVER THE INPUT: true; the input reads as it did. -/
def mutexPlaysSpec : ChangeSpec := { name := "mutexPlays", fn := fun _ => fun
  | [d1, d2, d3, d4, d5] => { results := [.lit (.bool true)], args := [d1, d2, d3, d4, d5] }
  | _ => none }
def mutexPlaysRow : OpenClaim := { program := "ytagnobmdcchcaaa", sum := "d7afc2e362d31c4ff7fc0341d971dbc4a7d13b8ef784028d8d2acefa8e57f7e4", func := "metronome/metronomelaw13.MutexPlays", spec := "mutexPlays", unfollowed := true, recurses := true, apart := false }
def MutexPlaysSaid : Prop := mutexPlaysRow.holds Try.pinned (OpenSpec.ofChange mutexPlaysSpec)

/-- ITS FALSE NEIGHBOUR: 'it returns false'. Refute it at one input. -/
def mutexPlaysWrong : ChangeSpec := { name := "mutexPlays", fn := fun _ => fun
  | [d1, d2, d3, d4, d5] => { results := [.lit (.bool false)], args := [d1, d2, d3, d4, d5] }
  | _ => none }
def MutexPlaysWrongFalsely : Prop := mutexPlaysRow.holds Try.pinned (OpenSpec.ofChange mutexPlaysWrong)

/-- 'metronomelaw13.MutexCopies': WHATEVER THE INPUT: true; the input reads as it did. -/
def mutexCopiesSpec : ChangeSpec := { name := "mutexCopies", fn := fun _ => fun
  | [d1, d2, d3, d4, d5, d6] => { results := [.lit (.bool true)], args := [d1, d2, d3, d4, d5, d6] }
  | _ => none }
def mutexCopiesRow : OpenClaim := { program := "ytagnobmdcchcaaa", sum := "d7afc2e362d31c4ff7fc0341d971dbc4a7d13b8ef784028d8d2acefa8e57f7e4", func := "metronome/metronomelaw13.MutexCopies", spec := "mutexCopies", unfollowed := true, recurses := true, apart := false }
def MutexCopiesSaid : Prop := mutexCopiesRow.holds Try.pinned (OpenSpec.ofChange mutexCopiesSpec)

/-- ITS FALSE NEIGHBOUR: 'it returns false'. Refute it at one input. -/
def mutexCopiesWrong : ChangeSpec := { name := "mutexCopies", fn := fun _ => fun
  | [d1, d2, d3, d4, d5, d6] => { results := [.lit (.bool false)], args := [d1, d2, d3, d4, d5, d6] }
  | _ => none }
def MutexCopiesWrongFalsely : Prop := mutexCopiesRow.holds Try.pinned (OpenSpec.ofChange mutexCopiesWrong)

/-- 'metronomelaw13.MutexNil': WHATEVER THE INPUT: true; the input reads as it did. -/
def mutexNilSpec : ChangeSpec := { name := "mutexNil", fn := fun _ => fun
  | [] => { results := [.lit (.bool true)], args := [] }
  | _ => none }
def mutexNilRow : OpenClaim := { program := "ytagnobmdcchcaaa", sum := "d7afc2e362d31c4ff7fc0341d971dbc4a7d13b8ef784028d8d2acefa8e57f7e4", func := "metronome/metronomelaw13.MutexNil", spec := "mutexNil", unfollowed := true, recurses := true, apart := false }
def MutexNilSaid : Prop := mutexNilRow.holds Try.pinned (OpenSpec.ofChange mutexNilSpec)

/-- ITS FALSE NEIGHBOUR: 'it returns false'. Refute it at one input. -/
def mutexNilWrong : ChangeSpec := { name := "mutexNil", fn := fun _ => fun
  | [] => { results := [.lit (.bool false)], args := [] }
  | _ => none }
def MutexNilWrongFalsely : Prop := mutexNilRow.holds Try.pinned (OpenSpec.ofChange mutexNilWrong)

/- THE SECOND FORM. 'bulk': how many values and letters a reading holds, each counted each time it is reached (what is shared counts as often as it is met; a slice's spare places count too). A statement '..UptoSaid' is the law's where the arguments, and the package variables that the reading takes, are together of bulk at most 1048576: NARROWER than '..Said'. Prove '..Said' where nothing that the law and all that it calls make is longer than what came in: it says more and counts as full. Else prove '..UptoSaid'. A law counts once. -/
mutual
def uptoBulk {H : Type} : DataW H → Nat
  | .lit (.string bytes) => bytes.length + 1
  | .lit _ => 1
  | .nil => 1
  | .ptr d => uptoBulk d + 1
  | .slice elems spare => uptoBulkAll elems + uptoBulkAll spare + 1
  | .agg parts => uptoBulkAll parts + 1
  | .iface _ d => uptoBulk d + 1
  | .map entries => uptoBulkEntries entries + 1
  | .held _ => 1
def uptoBulkAll {H : Type} : List (DataW H) → Nat
  | [] => 0
  | d :: r => uptoBulk d + uptoBulkAll r
def uptoBulkEntries {H : Type} : List (Lit × DataW H) → Nat
  | [] => 0
  | x :: r => uptoBulkEntry x + uptoBulkEntries r
def uptoBulkEntry {H : Type} : Lit × DataW H → Nat
  | (.string bytes, d) => bytes.length + uptoBulk d + 1
  | (_, d) => uptoBulk d + 1
 end
def uptoSmall : (H : Type) → List (DataW H) → Bool := fun _ ds => decide (uptoBulkAll ds ≤ 1048576)
def OpenSpec.upto (s : _root_.Go.ChangeSpec) : _root_.Go.OpenSpec := { _root_.Go.OpenSpec.ofChange s with cond := some uptoSmall }

/-- 'metronomelaw13.MutexOrder', WHERE WHAT IT READS IS OF BULK AT MOST 1048576: true; the input reads as it did. -/
def mutexOrderUptoRow : OpenClaim := { program := "ytagnobmdcchcaaa", sum := "d7afc2e362d31c4ff7fc0341d971dbc4a7d13b8ef784028d8d2acefa8e57f7e4", func := "metronome/metronomelaw13.MutexOrder", spec := "mutexOrder", unfollowed := true, recurses := true, apart := false, narrowed := true }
def MutexOrderUptoSaid : Prop := mutexOrderUptoRow.holds Try.pinned (OpenSpec.upto mutexOrderSpec)

/-- 'metronomelaw13.MutexCounts', WHERE WHAT IT READS IS OF BULK AT MOST 1048576: true; the input reads as it did. -/
def mutexCountsUptoRow : OpenClaim := { program := "ytagnobmdcchcaaa", sum := "d7afc2e362d31c4ff7fc0341d971dbc4a7d13b8ef784028d8d2acefa8e57f7e4", func := "metronome/metronomelaw13.MutexCounts", spec := "mutexCounts", unfollowed := true, recurses := true, apart := false, narrowed := true }
def MutexCountsUptoSaid : Prop := mutexCountsUptoRow.holds Try.pinned (OpenSpec.upto mutexCountsSpec)

/-- 'metronomelaw13.MutexDead', WHERE WHAT IT READS IS OF BULK AT MOST 1048576: true; the input reads as it did. -/
def mutexDeadUptoRow : OpenClaim := { program := "ytagnobmdcchcaaa", sum := "d7afc2e362d31c4ff7fc0341d971dbc4a7d13b8ef784028d8d2acefa8e57f7e4", func := "metronome/metronomelaw13.MutexDead", spec := "mutexDead", unfollowed := true, recurses := true, apart := false, narrowed := true }
def MutexDeadUptoSaid : Prop := mutexDeadUptoRow.holds Try.pinned (OpenSpec.upto mutexDeadSpec)

/-- 'metronomelaw13.MutexFree', WHERE WHAT IT READS IS OF BULK AT MOST 1048576: true; the input reads as it did. -/
def mutexFreeUptoRow : OpenClaim := { program := "ytagnobmdcchcaaa", sum := "d7afc2e362d31c4ff7fc0341d971dbc4a7d13b8ef784028d8d2acefa8e57f7e4", func := "metronome/metronomelaw13.MutexFree", spec := "mutexFree", unfollowed := true, recurses := true, apart := false, narrowed := true }
def MutexFreeUptoSaid : Prop := mutexFreeUptoRow.holds Try.pinned (OpenSpec.upto mutexFreeSpec)

/-- 'metronomelaw13.MutexPlays', WHERE WHAT IT READS IS OF BULK AT MOST 1048576: true; the input reads as it did. -/
def mutexPlaysUptoRow : OpenClaim := { program := "ytagnobmdcchcaaa", sum := "d7afc2e362d31c4ff7fc0341d971dbc4a7d13b8ef784028d8d2acefa8e57f7e4", func := "metronome/metronomelaw13.MutexPlays", spec := "mutexPlays", unfollowed := true, recurses := true, apart := false, narrowed := true }
def MutexPlaysUptoSaid : Prop := mutexPlaysUptoRow.holds Try.pinned (OpenSpec.upto mutexPlaysSpec)

/-- 'metronomelaw13.MutexCopies', WHERE WHAT IT READS IS OF BULK AT MOST 1048576: true; the input reads as it did. -/
def mutexCopiesUptoRow : OpenClaim := { program := "ytagnobmdcchcaaa", sum := "d7afc2e362d31c4ff7fc0341d971dbc4a7d13b8ef784028d8d2acefa8e57f7e4", func := "metronome/metronomelaw13.MutexCopies", spec := "mutexCopies", unfollowed := true, recurses := true, apart := false, narrowed := true }
def MutexCopiesUptoSaid : Prop := mutexCopiesUptoRow.holds Try.pinned (OpenSpec.upto mutexCopiesSpec)

/-- 'metronomelaw13.MutexNil', WHERE WHAT IT READS IS OF BULK AT MOST 1048576: true; the input reads as it did. -/
def mutexNilUptoRow : OpenClaim := { program := "ytagnobmdcchcaaa", sum := "d7afc2e362d31c4ff7fc0341d971dbc4a7d13b8ef784028d8d2acefa8e57f7e4", func := "metronome/metronomelaw13.MutexNil", spec := "mutexNil", unfollowed := true, recurses := true, apart := false, narrowed := true }
def MutexNilUptoSaid : Prop := mutexNilUptoRow.holds Try.pinned (OpenSpec.upto mutexNilSpec)

end Rows
end Go.Proofs.Ytagnobmdcchcaaa
