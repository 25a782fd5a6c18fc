/- Package fp6, and the document's threes: products and inverses. -/
import Derived.Test.YtchlamfdofpolaaPe
set_option linter.unusedSimpArgs false
set_option linter.unusedVariables false
namespace Go.Proofs.Ytchlamfdofpolaa
open Go.RowKit

end Go.Proofs.Ytchlamfdofpolaa
