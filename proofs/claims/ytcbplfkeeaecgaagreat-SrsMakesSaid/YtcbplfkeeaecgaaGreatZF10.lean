/- Texts of the proof, joined. -/
import Derived.Deep.Slices
import Derived.Test.YtcbplfkeeaecgaaGreatZF9
set_option linter.unusedSectionVars false
set_option linter.unusedSimpArgs false
set_option linter.unusedVariables false
set_option maxRecDepth 100000
namespace Go.Proofs.YtcbplfkeeaecgaaGreat
open Go.ChangeShapes Go.WideShapes Go.ChangeAt Go.RowKit
instance : Inhabited Fr := ⟨⟨0, 0, 0, 0⟩⟩
end Go.Proofs.YtcbplfkeeaecgaaGreat
