/-
  DERIVED. GIVEN WITH THE SEED: THE CARDS: each row of YtkkjbnmfjhmobaaDoorRows.lean that lists a variable, with what it lists TIED to the program's text (the seventh form; the later family's looks); each row that meets fmt, with fmt's text TOLD by the authors' own Lean function (tested against real Go, not proved from fmt's source: count such statements apart). THE CARD IS WHAT COUNTS. Prove the row's statement (the work); the ties are given (YtkkjbnmfjhmobaaDoorTie.lean); close each card by the builder's one call (the guide's Derived/Test/ToyasCard.lean, 'card_holds'). Laid BY PROGRAM, IN A SANDBOX (cutbox-door.mjs). By AI agents, Wed Nov 11 2026. No macro, syntax, notation, axiom, sorry.
-/
import Derived.Test.YtkkjbnmfjhmobaaDoorRows
import GoSem.ClaimSeven
namespace Go.Proofs.YtkkjbnmfjhmobaaDoor
namespace Rows

/-- THE TIED CARD OF 'metronomelaw22.RamfsReads'. -/
def ramfsReadsCard : Claim7 := { stood := { row := ramfsReadsRow, standIns := [], harness := (true, "dca6cde044b03c744890120d0612f1dba9337340789580c9ddf15ba0eaea4f0f"), looks := true }, kinds := [], alts := [], laidByText := true, laidKinds := [.data, .pinned], laidTests := true, laidLooks := .later }
def RamfsReadsCardSaid : Prop := Claim7.holds Tryd.pinned (.plain (OpenSpec.ofChange ramfsReadsSpec)) ramfsReadsCard

/-- THE TIED CARD OF 'metronomelaw22.RamfsFull'. -/
def ramfsFullCard : Claim7 := { stood := { row := ramfsFullRow, standIns := [], harness := (true, "dca6cde044b03c744890120d0612f1dba9337340789580c9ddf15ba0eaea4f0f"), looks := true }, kinds := [], alts := [], laidByText := true, laidKinds := [.data, .pinned], laidTests := true, laidLooks := .later }
def RamfsFullCardSaid : Prop := Claim7.holds Tryd.pinned (.plain (OpenSpec.ofChange ramfsFullSpec)) ramfsFullCard

/-- THE SECOND FORM's CARD OF 'metronomelaw22.RamfsReads'. -/
def ramfsReadsUptoCard : Claim7 := { stood := { row := ramfsReadsUptoRow, standIns := [], harness := (true, "dca6cde044b03c744890120d0612f1dba9337340789580c9ddf15ba0eaea4f0f"), looks := true }, kinds := [], alts := [], laidByText := true, laidKinds := [.data, .pinned], laidTests := true, laidLooks := .later }
def RamfsReadsUptoCardSaid : Prop := Claim7.holds Tryd.pinned (.plain (OpenSpec.upto ramfsReadsSpec)) ramfsReadsUptoCard

/-- THE SECOND FORM's CARD OF 'metronomelaw22.RamfsFull'. -/
def ramfsFullUptoCard : Claim7 := { stood := { row := ramfsFullUptoRow, standIns := [], harness := (true, "dca6cde044b03c744890120d0612f1dba9337340789580c9ddf15ba0eaea4f0f"), looks := true }, kinds := [], alts := [], laidByText := true, laidKinds := [.data, .pinned], laidTests := true, laidLooks := .later }
def RamfsFullUptoCardSaid : Prop := Claim7.holds Tryd.pinned (.plain (OpenSpec.upto ramfsFullSpec)) ramfsFullUptoCard
end Rows
end Go.Proofs.YtkkjbnmfjhmobaaDoor
