
/- metronomeref09: Leave. -/
import Derived.Test.YtagnobmdcchcaaaRb
import Derived.BigRegion
namespace Go.Proofs.Ytagnobmdcchcaaa
open Go.RowKit

theorem flatW_append (l m : WL) : flatW (l ++ m) = flatW l ++ flatW m := by simp [flatW]

end Go.Proofs.Ytagnobmdcchcaaa
