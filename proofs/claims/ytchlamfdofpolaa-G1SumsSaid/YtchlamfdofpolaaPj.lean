/- Powers of pairs. -/
import Derived.Test.YtchlamfdofpolaaPh
set_option linter.unusedSimpArgs false
set_option linter.unusedVariables false
namespace Go.Proofs.Ytchlamfdofpolaa
open Go.RowKit

def pw2St (e : List UInt64) (x o : Fp2) (z : Int) : St := mkSt 39 [(1, inV 0 e), (4, ptrV 1), (5, ptrV 2), (6, ptrV 3), (7, vI z)] [inHE eU64 e, own 52 (zeros 12), own 52 (Row.cs x), own 52 (Row.cs o)]
def tPw2 (wF : Fp2 → Fp2) (hF : Fp2 → Fp2 → Fp2) (lF : Fp2 → Fp2) : Table := [(132, Kp1 wF), (129, Kp2 hF), (128, Kp1 lF)]

def pw2At (x : Fp2) (e : List UInt64) : Nat → Fp2 → Fp2
  | 0, o => lowF2 o
  | n + 1, o => pw2At x e n (match bitAt e n with | true => halfF2 (halfF2 o o) x | false => halfF2 o o)
def powF2 (a : Fp2) (e : List UInt64) : Fp2 := pw2At (wholeF2 a) e (64 * e.length) (wholeF2 oneFp2)
abbrev Pw2Ok (a : Fp2) (e : List UInt64) : Type := { q : Int × Fp2 // 0 ≤ q.1 ∧ q.1 ≤ 64 * e.length ∧ pw2At (wholeF2 a) e q.1.toNat q.2 = powF2 a e }
def pw2I (a : Fp2) (e : List UInt64) (q : Pw2Ok a e) : St := pw2St e (wholeF2 a) q.1.2 q.1.1

end Go.Proofs.Ytchlamfdofpolaa
