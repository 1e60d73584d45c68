/-
  DERIVED. GIVEN WITH THE SEED: THE CARDS: each row of YtkkjbnmfjhmobaaGreatDoorRows.lean that lists a variable, with what it lists TIED to the program's text (the seventh form; the later family's looks); each row that meets fmt, with fmt's text TOLD by the authors' own Lean function (tested against real Go, not proved from fmt's source: count such statements apart). THE CARD IS WHAT COUNTS. Prove the row's statement (the work); the ties are given (YtkkjbnmfjhmobaaGreatDoorTie.lean); close each card by the builder's one call (the guide's Derived/Test/ToyasCard.lean, 'card_holds'). Laid BY PROGRAM, IN A SANDBOX (cutbox-door.mjs). By AI agents, Wed Nov 11 2026. No macro, syntax, notation, axiom, sorry.
-/
import Derived.Test.YtkkjbnmfjhmobaaGreatDoorRows
import GoSem.ClaimSeven
namespace Go.Proofs.YtkkjbnmfjhmobaaGreatDoor
namespace Rows

/-- THE TIED CARD OF 'metronomelaw22.RamfsNil'. -/
def ramfsNilCard : Claim7 := { stood := { row := ramfsNilRow, standIns := [], harness := (true, "94387e693b663de5d35232e5ed654c1cf0accfb72f9527e45009a26108a07e5c"), looks := true }, kinds := [], alts := [], laidByText := true, laidKinds := [.data, .pinned], laidTests := true, laidLooks := .later }
def RamfsNilCardSaid : Prop := Claim7.holds Tryz.pinned (.plain (OpenSpec.ofChange ramfsNilSpec)) ramfsNilCard

/-- THE SECOND FORM's CARD OF 'metronomelaw22.RamfsNil'. -/
def ramfsNilUptoCard : Claim7 := { stood := { row := ramfsNilUptoRow, standIns := [], harness := (true, "94387e693b663de5d35232e5ed654c1cf0accfb72f9527e45009a26108a07e5c"), looks := true }, kinds := [], alts := [], laidByText := true, laidKinds := [.data, .pinned], laidTests := true, laidLooks := .later }
def RamfsNilUptoCardSaid : Prop := Claim7.holds Tryz.pinned (.plain (OpenSpec.upto ramfsNilSpec)) ramfsNilUptoCard
end Rows
end Go.Proofs.YtkkjbnmfjhmobaaGreatDoor
