
/- metronomeref09: Copy. -/
import Derived.Test.YtpdfeinbbjfcaaaGreatRe
namespace Go.Proofs.YtpdfeinbbjfcaaaGreat
open Go.RowKit

def RCopyP (l : WL) (w : World) (e : Ending) (w' : World) : Prop :=
  ∃ rb, e = .returned (.pointer (some ⟨rb, 0, none⟩)) ∧ w.heap.size ≤ rb ∧ RAt w' rb l ∧ Chg [] w w'

end Go.Proofs.YtpdfeinbbjfcaaaGreat
