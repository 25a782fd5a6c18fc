/- Points, and points by three numbers: rows of cells. -/
import Derived.Test.YtchlamfdofpolaaFD
import Derived.Test.YtchlamfdofpolaaPa
import Derived.Test.YtchlamfdofpolaaEF
set_option linter.unusedSimpArgs false
set_option linter.unusedVariables false
namespace Go.Proofs.Ytchlamfdofpolaa
open Go.RowKit

def infG1 : Pg1 := ⟨zeroFp, zeroFp, true⟩
def pg1Eq (a b : Pg1) : Bool := fpEq a.x b.x && (fpEq a.y b.y && ((a.inf == b.inf) && true))
theorem pg1Eq_iff (a b : Pg1) : pg1Eq a b = true ↔ a = b := by
  unfold pg1Eq
  rw [Bool.and_true, Bool.and_eq_true, Bool.and_eq_true, fpEq_iff, fpEq_iff, beq_iff_eq]
  cases a; cases b
  simp

def infG2 : Pg2 := ⟨zeroFp2, zeroFp2, true⟩
def pg2Eq (a b : Pg2) : Bool := fp2Eq a.x b.x && (fp2Eq a.y b.y && ((a.inf == b.inf) && true))
theorem pg2Eq_iff (a b : Pg2) : pg2Eq a b = true ↔ a = b := by
  unfold pg2Eq
  rw [Bool.and_true, Bool.and_eq_true, Bool.and_eq_true, fp2Eq_iff, fp2Eq_iff, beq_iff_eq]
  cases a; cases b
  simp

def zeroSp : Sp1 := ⟨zeroFp, zeroFp, zeroFp⟩

abbrev kg1 : Kd Pg1 := kRow Pg1
abbrev kg2 : Kd Pg2 := kRow Pg2

end Go.Proofs.Ytchlamfdofpolaa
