/- Package fp6, and the document's threes. -/
import Derived.Test.YtchlamfdofpolaaPd
import Derived.Test.YtchlamfdofpolaaEF
set_option linter.unusedSimpArgs false
set_option linter.unusedVariables false
namespace Go.Proofs.Ytchlamfdofpolaa
open Go.RowKit

end Go.Proofs.Ytchlamfdofpolaa
