/- Products of threes and sixes of pairs. -/
import Derived.Test.YtchlamfdofpolaaPf
set_option linter.unusedSimpArgs false
set_option linter.unusedVariables false
namespace Go.Proofs.Ytchlamfdofpolaa
open Go.RowKit

def Fp6.nth (a : Fp6) : Nat → Fp2
  | 0 => a.c0
  | 1 => a.c1
  | _ => a.c2
def crossF (i j : Nat) (a b : Fp6) (x y : Fp2) : Fp2 := subF2 (halfF2 (addF2 (a.nth i) (a.nth j)) (addF2 (b.nth i) (b.nth j))) (addF2 x y)
abbrev Kcross (F : Nat → Nat → Fp6 → Fp6 → Fp2 → Fp2 → Fp2) : Contract := KOr (KN (KdL.cons (kRow Fp6) (KdL.cons (kRow Fp6) (KdL.cons (kLit 0) (KdL.cons (kLit 1) (KdL.cons (kRow Fp2) (KdL.cons (kRow Fp2) KdL.nil)))))) (kRow Fp2).rs.res (fun x => F 0 1 x.1 x.2.1 x.2.2.2.2.1 x.2.2.2.2.2.1)) (KOr (KN (KdL.cons (kRow Fp6) (KdL.cons (kRow Fp6) (KdL.cons (kLit 0) (KdL.cons (kLit 2) (KdL.cons (kRow Fp2) (KdL.cons (kRow Fp2) KdL.nil)))))) (kRow Fp2).rs.res (fun x => F 0 2 x.1 x.2.1 x.2.2.2.2.1 x.2.2.2.2.2.1)) (KN (KdL.cons (kRow Fp6) (KdL.cons (kRow Fp6) (KdL.cons (kLit 1) (KdL.cons (kLit 2) (KdL.cons (kRow Fp2) (KdL.cons (kRow Fp2) KdL.nil)))))) (kRow Fp2).rs.res (fun x => F 1 2 x.1 x.2.1 x.2.2.2.2.1 x.2.2.2.2.2.1)))
end Go.Proofs.Ytchlamfdofpolaa
