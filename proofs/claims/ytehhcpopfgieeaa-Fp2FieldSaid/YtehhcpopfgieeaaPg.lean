/- Products of threes and sixes of pairs. -/
import Derived.Test.YtehhcpopfgieeaaPf
set_option linter.unusedSimpArgs false
set_option linter.unusedVariables false
namespace Go.Proofs.Ytehhcpopfgieeaa
open Go.RowKit

def Fp6.nth (a : Fp6) : Nat → Fp2
  | 0 => a.c0
  | 1 => a.c1
  | _ => a.c2
def crossF (i j : Nat) (a b : Fp6) (x y : Fp2) : Fp2 := subF2 (halfF2 (addF2 (a.nth i) (a.nth j)) (addF2 (b.nth i) (b.nth j))) (addF2 x y)
abbrev Kcross (F : Nat → Nat → Fp6 → Fp6 → Fp2 → Fp2 → Fp2) : Contract := KOr (KN (KdL.cons (kRow Fp6) (KdL.cons (kRow Fp6) (KdL.cons (kLit 0) (KdL.cons (kLit 1) (KdL.cons (kRow Fp2) (KdL.cons (kRow Fp2) KdL.nil)))))) (kRow Fp2).rs.res (fun x => F 0 1 x.1 x.2.1 x.2.2.2.2.1 x.2.2.2.2.2.1)) (KOr (KN (KdL.cons (kRow Fp6) (KdL.cons (kRow Fp6) (KdL.cons (kLit 0) (KdL.cons (kLit 2) (KdL.cons (kRow Fp2) (KdL.cons (kRow Fp2) KdL.nil)))))) (kRow Fp2).rs.res (fun x => F 0 2 x.1 x.2.1 x.2.2.2.2.1 x.2.2.2.2.2.1)) (KN (KdL.cons (kRow Fp6) (KdL.cons (kRow Fp6) (KdL.cons (kLit 1) (KdL.cons (kLit 2) (KdL.cons (kRow Fp2) (KdL.cons (kRow Fp2) KdL.nil)))))) (kRow Fp2).rs.res (fun x => F 1 2 x.1 x.2.1 x.2.2.2.2.1 x.2.2.2.2.2.1)))
theorem cross_ok : CallOk Try.prog 103 (Kcross crossF) :=
  KOr_ok cross01_ok (KOr_ok cross02_ok cross12_ok (KN_still _ _ _)) (KN_still _ _ _)
def halfF6_G (f0 : Fp2 → Fp2 → Fp2) (f1 : Fp2 → Fp2 → Fp2) (f2 : Fp2 → Fp2) (f3 : Nat → Nat → Fp6 → Fp6 → Fp2 → Fp2 → Fp2) (a : Fp6) (b : Fp6) : Fp6 := ({ c0 := f1 (f0 a.c0 b.c0) (f2 (f3 1 2 a b (f0 a.c1 b.c1) (f0 a.c2 b.c2))), c1 := f1 (f3 0 1 a b (f0 a.c0 b.c0) (f0 a.c1 b.c1)) (f2 (f0 a.c2 b.c2)), c2 := f1 (f3 0 2 a b (f0 a.c0 b.c0) (f0 a.c2 b.c2)) (f0 a.c1 b.c1) })
def halfF6_T (f0 : Fp2 → Fp2 → Fp2) (f1 : Fp2 → Fp2 → Fp2) (f2 : Fp2 → Fp2) (f3 : Nat → Nat → Fp6 → Fp6 → Fp2 → Fp2 → Fp2) (a : Fp6) (b : Fp6) : Tree (Option (Fp6)) :=
  (.leaf (some ({ c0 := f1 (f0 a.c0 b.c0) (f2 (f3 1 2 a b (f0 a.c1 b.c1) (f0 a.c2 b.c2))), c1 := f1 (f3 0 1 a b (f0 a.c0 b.c0) (f0 a.c1 b.c1)) (f2 (f0 a.c2 b.c2)), c2 := f1 (f3 0 2 a b (f0 a.c0 b.c0) (f0 a.c2 b.c2)) (f0 a.c1 b.c1) })))
theorem halfF6_run (f0 : Fp2 → Fp2 → Fp2) (f1 : Fp2 → Fp2 → Fp2) (f2 : Fp2 → Fp2) (f3 : Nat → Nat → Fp6 → Fp6 → Fp2 → Fp2 → Fp2) (a : Fp6) (b : Fp6) : plainRun (En [(77, K2 (kRow Fp2).arg (kRow Fp2).arg (kRow Fp2).rs.res f0), (36, K2 (kRow Fp2).arg (kRow Fp2).arg (kRow Fp2).rs.res f1), (66, K1 (kRow Fp2).arg (kRow Fp2).rs.res f2), (103, Kcross f3)]) (kRow Fp6).rs 300 Try.f68 [.one ((kRow Fp6).av a), .one ((kRow Fp6).av b)] = halfF6_T f0 f1 f2 f3 a b := by kernel_rfl
theorem halfF6_sat (f0 : Fp2 → Fp2 → Fp2) (f1 : Fp2 → Fp2 → Fp2) (f2 : Fp2 → Fp2) (f3 : Nat → Nat → Fp6 → Fp6 → Fp2 → Fp2 → Fp2) (a : Fp6) (b : Fp6) : (halfF6_T f0 f1 f2 f3 a b).sat fun q => q = some (halfF6_G f0 f1 f2 f3 a b) := (show some _ = some _ from rfl)
def halfF6 (a : Fp6) (b : Fp6) : Fp6 := halfF6_G halfF2 addF2 upF2 crossF a b
theorem halfF6_ok : CallOk Try.prog 68 (K2 (kRow Fp6).arg (kRow Fp6).arg (kRow Fp6).rs.res halfF6) :=
  P2 (En_ok (.cons halfF2_ok (.cons addF2_ok (.cons upF2_ok (.cons cross_ok .nil))))) Try.func68 (bodied Try.func68 (by kernel_rfl) (by kernel_rfl)) 300 (kRow Fp6) (kRow Fp6) (kRow Fp6).rs halfF6 (halfF6_run halfF2 addF2 upF2 crossF) (halfF6_sat halfF2 addF2 upF2 crossF)
def mulF6_G (f0 : Fp6 → Fp6 → Fp6) (f1 : Fp6 → Fp6) (a : Fp6) (b : Fp6) : Fp6 := (f1 (f0 a b))
def mulF6_T (f0 : Fp6 → Fp6 → Fp6) (f1 : Fp6 → Fp6) (a : Fp6) (b : Fp6) : Tree (Option (Fp6)) :=
  (.leaf (some (f1 (f0 a b))))
theorem mulF6_run (f0 : Fp6 → Fp6 → Fp6) (f1 : Fp6 → Fp6) (a : Fp6) (b : Fp6) : plainRun (En [(68, K2 (kRow Fp6).arg (kRow Fp6).arg (kRow Fp6).rs.res f0), (67, K1 (kRow Fp6).arg (kRow Fp6).rs.res f1)]) (kRow Fp6).rs 300 Try.f15 [.one ((kRow Fp6).av a), .one ((kRow Fp6).av b)] = mulF6_T f0 f1 a b := by kernel_rfl
theorem mulF6_sat (f0 : Fp6 → Fp6 → Fp6) (f1 : Fp6 → Fp6) (a : Fp6) (b : Fp6) : (mulF6_T f0 f1 a b).sat fun q => q = some (mulF6_G f0 f1 a b) := (show some _ = some _ from rfl)
def mulF6 (a : Fp6) (b : Fp6) : Fp6 := mulF6_G halfF6 wholeF6 a b
theorem mulF6_ok : CallOk Try.prog 15 (K2 (kRow Fp6).arg (kRow Fp6).arg (kRow Fp6).rs.res mulF6) :=
  P2 (En_ok (.cons halfF6_ok (.cons wholeF6_ok .nil))) Try.func15 (bodied Try.func15 (by kernel_rfl) (by kernel_rfl)) 300 (kRow Fp6) (kRow Fp6) (kRow Fp6).rs mulF6 (mulF6_run halfF6 wholeF6) (mulF6_sat halfF6 wholeF6)
def mul6R_G (f0 : Fp2 → Fp2 → Fp2) (f1 : Fp2 → Fp2 → Fp2) (f2 : Fp2) (a : Fp6) (b : Fp6) : Fp6 := ({ c0 := f0 (f0 zeroFp2 (f1 a.c0 b.c0)) (f1 (f0 (f0 zeroFp2 (f1 a.c1 b.c2)) (f1 a.c2 b.c1)) f2), c1 := f0 (f0 (f0 zeroFp2 (f1 a.c0 b.c1)) (f1 a.c1 b.c0)) (f1 (f0 zeroFp2 (f1 a.c2 b.c2)) f2), c2 := f0 (f0 (f0 zeroFp2 (f1 a.c0 b.c2)) (f1 a.c1 b.c1)) (f1 a.c2 b.c0) })
def mul6R_T (f0 : Fp2 → Fp2 → Fp2) (f1 : Fp2 → Fp2 → Fp2) (f2 : Fp2) (a : Fp6) (b : Fp6) : Tree (Option (Fp6)) :=
  (.leaf (some ({ c0 := f0 (f0 zeroFp2 (f1 a.c0 b.c0)) (f1 (f0 (f0 zeroFp2 (f1 a.c1 b.c2)) (f1 a.c2 b.c1)) f2), c1 := f0 (f0 (f0 zeroFp2 (f1 a.c0 b.c1)) (f1 a.c1 b.c0)) (f1 (f0 zeroFp2 (f1 a.c2 b.c2)) f2), c2 := f0 (f0 (f0 zeroFp2 (f1 a.c0 b.c2)) (f1 a.c1 b.c1)) (f1 a.c2 b.c0) })))
theorem mul6R_run (f0 : Fp2 → Fp2 → Fp2) (f1 : Fp2 → Fp2 → Fp2) (f2 : Fp2) (a : Fp6) (b : Fp6) : plainRun (En [(37, K2 (kRow Fp2).arg (kRow Fp2).arg (kRow Fp2).rs.res f0), (41, K2 (kRow Fp2).arg (kRow Fp2).arg (kRow Fp2).rs.res f1), (70, K0 (kRow Fp2).rs.res f2)]) (kRow Fp6).rs 300 Try.f25 [.one ((kRow Fp6).av a), .one ((kRow Fp6).av b)] = mul6R_T f0 f1 f2 a b := by kernel_rfl
theorem mul6R_sat (f0 : Fp2 → Fp2 → Fp2) (f1 : Fp2 → Fp2 → Fp2) (f2 : Fp2) (a : Fp6) (b : Fp6) : (mul6R_T f0 f1 f2 a b).sat fun q => q = some (mul6R_G f0 f1 f2 a b) := (show some _ = some _ from rfl)
def mul6R (a : Fp6) (b : Fp6) : Fp6 := mul6R_G add2R mul2R xi2R a b
theorem mul6R_ok : CallOk Try.prog 25 (K2 (kRow Fp6).arg (kRow Fp6).arg (kRow Fp6).rs.res mul6R) :=
  P2 (En_ok (.cons add2R_ok (.cons mul2R_ok (.cons xi2R_ok .nil)))) Try.func25 (bodied Try.func25 (by kernel_rfl) (by kernel_rfl)) 300 (kRow Fp6) (kRow Fp6) (kRow Fp6).rs mul6R (mul6R_run add2R mul2R xi2R) (mul6R_sat add2R mul2R xi2R)
def mul12R_G (f0 : Fp6 → Fp6 → Fp6) (f1 : Fp6 → Fp6 → Fp6) (f2 : Fp6 → Fp6) (a : Fp12) (b : Fp12) : Fp12 := ({ c0 := f0 (f1 a.c0 b.c0) (f2 (f1 a.c1 b.c1)), c1 := f0 (f1 a.c0 b.c1) (f1 a.c1 b.c0) })
def mul12R_T (f0 : Fp6 → Fp6 → Fp6) (f1 : Fp6 → Fp6 → Fp6) (f2 : Fp6 → Fp6) (a : Fp12) (b : Fp12) : Tree (Option (Fp12)) :=
  (.leaf (some ({ c0 := f0 (f1 a.c0 b.c0) (f2 (f1 a.c1 b.c1)), c1 := f0 (f1 a.c0 b.c1) (f1 a.c1 b.c0) })))
theorem mul12R_run (f0 : Fp6 → Fp6 → Fp6) (f1 : Fp6 → Fp6 → Fp6) (f2 : Fp6 → Fp6) (a : Fp12) (b : Fp12) : plainRun (En [(20, K2 (kRow Fp6).arg (kRow Fp6).arg (kRow Fp6).rs.res f0), (25, K2 (kRow Fp6).arg (kRow Fp6).arg (kRow Fp6).rs.res f1), (26, K1 (kRow Fp6).arg (kRow Fp6).rs.res f2)]) (kRow Fp12).rs 300 Try.f60 [.one ((kRow Fp12).av a), .one ((kRow Fp12).av b)] = mul12R_T f0 f1 f2 a b := by kernel_rfl
theorem mul12R_sat (f0 : Fp6 → Fp6 → Fp6) (f1 : Fp6 → Fp6 → Fp6) (f2 : Fp6 → Fp6) (a : Fp12) (b : Fp12) : (mul12R_T f0 f1 f2 a b).sat fun q => q = some (mul12R_G f0 f1 f2 a b) := (show some _ = some _ from rfl)
def mul12R (a : Fp12) (b : Fp12) : Fp12 := mul12R_G add6R mul6R up6R a b
theorem mul12R_ok : CallOk Try.prog 60 (K2 (kRow Fp12).arg (kRow Fp12).arg (kRow Fp12).rs.res mul12R) :=
  P2 (En_ok (.cons add6R_ok (.cons mul6R_ok (.cons up6R_ok .nil)))) Try.func60 (bodied Try.func60 (by kernel_rfl) (by kernel_rfl)) 300 (kRow Fp12) (kRow Fp12) (kRow Fp12).rs mul12R (mul12R_run add6R mul6R up6R) (mul12R_sat add6R mul6R up6R)
def inv12R_G (f0 : Fp6 → Fp6 × Int) (f1 : Fp6 → Fp6 → Fp6) (f2 : Fp6 → Fp6 → Fp6) (f3 : Fp6 → Fp6) (f4 : Fp6 → Fp6) (a : Fp12) : Fp12 × Int := (match ((f0 (f1 (f2 a.c0 a.c0) (f3 (f2 a.c1 a.c1)))).snd != 0) with | true => ((zeroFp12, (f0 (f1 (f2 a.c0 a.c0) (f3 (f2 a.c1 a.c1)))).snd)) | false => (({ c0 := f2 a.c0 (f0 (f1 (f2 a.c0 a.c0) (f3 (f2 a.c1 a.c1)))).fst, c1 := f4 (f2 a.c1 (f0 (f1 (f2 a.c0 a.c0) (f3 (f2 a.c1 a.c1)))).fst) }, 0)))
def inv12R_T (f0 : Fp6 → Fp6 × Int) (f1 : Fp6 → Fp6 → Fp6) (f2 : Fp6 → Fp6 → Fp6) (f3 : Fp6 → Fp6) (f4 : Fp6 → Fp6) (a : Fp12) : Tree (Option (Fp12 × Int)) :=
  (.br ((f0 (f1 (f2 a.c0 a.c0) (f3 (f2 a.c1 a.c1)))).snd != 0)
    (.leaf (some ((zeroFp12, (f0 (f1 (f2 a.c0 a.c0) (f3 (f2 a.c1 a.c1)))).snd))))
    (.leaf (some (({ c0 := f2 a.c0 (f0 (f1 (f2 a.c0 a.c0) (f3 (f2 a.c1 a.c1)))).fst, c1 := f4 (f2 a.c1 (f0 (f1 (f2 a.c0 a.c0) (f3 (f2 a.c1 a.c1)))).fst) }, 0)))))
theorem inv12R_run (f0 : Fp6 → Fp6 × Int) (f1 : Fp6 → Fp6 → Fp6) (f2 : Fp6 → Fp6 → Fp6) (f3 : Fp6 → Fp6) (f4 : Fp6 → Fp6) (a : Fp12) : plainRun (En [(19, K1 (kRow Fp6).arg ((kRow Fp6).rs2 kInt).res f0), (22, K2 (kRow Fp6).arg (kRow Fp6).arg (kRow Fp6).rs.res f1), (25, K2 (kRow Fp6).arg (kRow Fp6).arg (kRow Fp6).rs.res f2), (26, K1 (kRow Fp6).arg (kRow Fp6).rs.res f3), (24, K1 (kRow Fp6).arg (kRow Fp6).rs.res f4)]) ((kRow Fp12).rs2 kInt) 300 Try.f56 [.one ((kRow Fp12).av a)] = inv12R_T f0 f1 f2 f3 f4 a := by kernel_rfl
theorem inv12R_sat (f0 : Fp6 → Fp6 × Int) (f1 : Fp6 → Fp6 → Fp6) (f2 : Fp6 → Fp6 → Fp6) (f3 : Fp6 → Fp6) (f4 : Fp6 → Fp6) (a : Fp12) : (inv12R_T f0 f1 f2 f3 f4 a).sat fun q => q = some (inv12R_G f0 f1 f2 f3 f4 a) := ⟨fun h0 => (show some _ = some _ from congrArg some (by unfold inv12R_G; rw [h0])), fun h0 => (show some _ = some _ from congrArg some (by unfold inv12R_G; rw [h0]))⟩
def inv12R (a : Fp12) : Fp12 × Int := inv12R_G inv6R sub6R mul6R up6R neg6R a
theorem inv12R_ok : CallOk Try.prog 56 (K1 (kRow Fp12).arg ((kRow Fp12).rs2 kInt).res inv12R) :=
  P1 (En_ok (.cons inv6R_ok (.cons sub6R_ok (.cons mul6R_ok (.cons up6R_ok (.cons neg6R_ok .nil)))))) Try.func56 (bodied Try.func56 (by kernel_rfl) (by kernel_rfl)) 300 (kRow Fp12) ((kRow Fp12).rs2 kInt) inv12R (inv12R_run inv6R sub6R mul6R up6R neg6R) (inv12R_sat inv6R sub6R mul6R up6R neg6R)
def halfF12_G (f0 : Fp6 → Fp6 → Fp6) (f1 : Fp6 → Fp6 → Fp6) (f2 : Fp6 → Fp6 → Fp6) (f3 : Fp6 → Fp6) (a : Fp12) (b : Fp12) : Fp12 := ({ c0 := f1 (f0 a.c0 b.c0) (f3 (f0 a.c1 b.c1)), c1 := f2 (f0 (f1 a.c0 a.c1) (f1 b.c0 b.c1)) (f1 (f0 a.c0 b.c0) (f0 a.c1 b.c1)) })
def halfF12_T (f0 : Fp6 → Fp6 → Fp6) (f1 : Fp6 → Fp6 → Fp6) (f2 : Fp6 → Fp6 → Fp6) (f3 : Fp6 → Fp6) (a : Fp12) (b : Fp12) : Tree (Option (Fp12)) :=
  (.leaf (some ({ c0 := f1 (f0 a.c0 b.c0) (f3 (f0 a.c1 b.c1)), c1 := f2 (f0 (f1 a.c0 a.c1) (f1 b.c0 b.c1)) (f1 (f0 a.c0 b.c0) (f0 a.c1 b.c1)) })))
theorem halfF12_run (f0 : Fp6 → Fp6 → Fp6) (f1 : Fp6 → Fp6 → Fp6) (f2 : Fp6 → Fp6 → Fp6) (f3 : Fp6 → Fp6) (a : Fp12) (b : Fp12) : plainRun (En [(68, K2 (kRow Fp6).arg (kRow Fp6).arg (kRow Fp6).rs.res f0), (16, K2 (kRow Fp6).arg (kRow Fp6).arg (kRow Fp6).rs.res f1), (21, K2 (kRow Fp6).arg (kRow Fp6).arg (kRow Fp6).rs.res f2), (17, K1 (kRow Fp6).arg (kRow Fp6).rs.res f3)]) (kRow Fp12).rs 300 Try.f96 [.one ((kRow Fp12).av a), .one ((kRow Fp12).av b)] = halfF12_T f0 f1 f2 f3 a b := by kernel_rfl
theorem halfF12_sat (f0 : Fp6 → Fp6 → Fp6) (f1 : Fp6 → Fp6 → Fp6) (f2 : Fp6 → Fp6 → Fp6) (f3 : Fp6 → Fp6) (a : Fp12) (b : Fp12) : (halfF12_T f0 f1 f2 f3 a b).sat fun q => q = some (halfF12_G f0 f1 f2 f3 a b) := (show some _ = some _ from rfl)
def halfF12 (a : Fp12) (b : Fp12) : Fp12 := halfF12_G halfF6 addF6 subF6 upF6 a b
theorem halfF12_ok : CallOk Try.prog 96 (K2 (kRow Fp12).arg (kRow Fp12).arg (kRow Fp12).rs.res halfF12) :=
  P2 (En_ok (.cons halfF6_ok (.cons addF6_ok (.cons subF6_ok (.cons upF6_ok .nil))))) Try.func96 (bodied Try.func96 (by kernel_rfl) (by kernel_rfl)) 300 (kRow Fp12) (kRow Fp12) (kRow Fp12).rs halfF12 (halfF12_run halfF6 addF6 subF6 upF6) (halfF12_sat halfF6 addF6 subF6 upF6)
def mulF12_G (f0 : Fp12 → Fp12 → Fp12) (f1 : Fp12 → Fp12) (a : Fp12) (b : Fp12) : Fp12 := (f1 (f0 a b))
def mulF12_T (f0 : Fp12 → Fp12 → Fp12) (f1 : Fp12 → Fp12) (a : Fp12) (b : Fp12) : Tree (Option (Fp12)) :=
  (.leaf (some (f1 (f0 a b))))
theorem mulF12_run (f0 : Fp12 → Fp12 → Fp12) (f1 : Fp12 → Fp12) (a : Fp12) (b : Fp12) : plainRun (En [(96, K2 (kRow Fp12).arg (kRow Fp12).arg (kRow Fp12).rs.res f0), (95, K1 (kRow Fp12).arg (kRow Fp12).rs.res f1)]) (kRow Fp12).rs 300 Try.f51 [.one ((kRow Fp12).av a), .one ((kRow Fp12).av b)] = mulF12_T f0 f1 a b := by kernel_rfl
theorem mulF12_sat (f0 : Fp12 → Fp12 → Fp12) (f1 : Fp12 → Fp12) (a : Fp12) (b : Fp12) : (mulF12_T f0 f1 a b).sat fun q => q = some (mulF12_G f0 f1 a b) := (show some _ = some _ from rfl)
def mulF12 (a : Fp12) (b : Fp12) : Fp12 := mulF12_G halfF12 wholeF12 a b
theorem mulF12_ok : CallOk Try.prog 51 (K2 (kRow Fp12).arg (kRow Fp12).arg (kRow Fp12).rs.res mulF12) :=
  P2 (En_ok (.cons halfF12_ok (.cons wholeF12_ok .nil))) Try.func51 (bodied Try.func51 (by kernel_rfl) (by kernel_rfl)) 300 (kRow Fp12) (kRow Fp12) (kRow Fp12).rs mulF12 (mulF12_run halfF12 wholeF12) (mulF12_sat halfF12 wholeF12)
def invF12_G (f0 : Fp6 → Fp6 → Fp6) (f1 : Fp6 → Fp6 → Fp6) (f2 : Fp6 → Fp6) (f3 : Fp6 → Fp6 × Int) (f4 : Fp6 → Fp6) (a : Fp12) : Fp12 × Int := (match ((f3 (f0 (f1 a.c0 a.c0) (f2 (f1 a.c1 a.c1)))).snd != 0) with | true => ((zeroFp12, (f3 (f0 (f1 a.c0 a.c0) (f2 (f1 a.c1 a.c1)))).snd)) | false => (({ c0 := f1 a.c0 (f3 (f0 (f1 a.c0 a.c0) (f2 (f1 a.c1 a.c1)))).fst, c1 := f4 (f1 a.c1 (f3 (f0 (f1 a.c0 a.c0) (f2 (f1 a.c1 a.c1)))).fst) }, 0)))
def invF12_T (f0 : Fp6 → Fp6 → Fp6) (f1 : Fp6 → Fp6 → Fp6) (f2 : Fp6 → Fp6) (f3 : Fp6 → Fp6 × Int) (f4 : Fp6 → Fp6) (a : Fp12) : Tree (Option (Fp12 × Int)) :=
  (.br ((f3 (f0 (f1 a.c0 a.c0) (f2 (f1 a.c1 a.c1)))).snd != 0)
    (.leaf (some ((zeroFp12, (f3 (f0 (f1 a.c0 a.c0) (f2 (f1 a.c1 a.c1)))).snd))))
    (.leaf (some (({ c0 := f1 a.c0 (f3 (f0 (f1 a.c0 a.c0) (f2 (f1 a.c1 a.c1)))).fst, c1 := f4 (f1 a.c1 (f3 (f0 (f1 a.c0 a.c0) (f2 (f1 a.c1 a.c1)))).fst) }, 0)))))
theorem invF12_run (f0 : Fp6 → Fp6 → Fp6) (f1 : Fp6 → Fp6 → Fp6) (f2 : Fp6 → Fp6) (f3 : Fp6 → Fp6 × Int) (f4 : Fp6 → Fp6) (a : Fp12) : plainRun (En [(21, K2 (kRow Fp6).arg (kRow Fp6).arg (kRow Fp6).rs.res f0), (15, K2 (kRow Fp6).arg (kRow Fp6).arg (kRow Fp6).rs.res f1), (17, K1 (kRow Fp6).arg (kRow Fp6).rs.res f2), (14, K1 (kRow Fp6).arg ((kRow Fp6).rs2 kInt).res f3), (23, K1 (kRow Fp6).arg (kRow Fp6).rs.res f4)]) ((kRow Fp12).rs2 kInt) 300 Try.f52 [.one ((kRow Fp12).av a)] = invF12_T f0 f1 f2 f3 f4 a := by kernel_rfl
theorem invF12_sat (f0 : Fp6 → Fp6 → Fp6) (f1 : Fp6 → Fp6 → Fp6) (f2 : Fp6 → Fp6) (f3 : Fp6 → Fp6 × Int) (f4 : Fp6 → Fp6) (a : Fp12) : (invF12_T f0 f1 f2 f3 f4 a).sat fun q => q = some (invF12_G f0 f1 f2 f3 f4 a) := ⟨fun h0 => (show some _ = some _ from congrArg some (by unfold invF12_G; rw [h0])), fun h0 => (show some _ = some _ from congrArg some (by unfold invF12_G; rw [h0]))⟩
def invF12 (a : Fp12) : Fp12 × Int := invF12_G subF6 mulF6 upF6 invF6 negF6 a
theorem invF12_ok : CallOk Try.prog 52 (K1 (kRow Fp12).arg ((kRow Fp12).rs2 kInt).res invF12) :=
  P1 (En_ok (.cons subF6_ok (.cons mulF6_ok (.cons upF6_ok (.cons invF6_ok (.cons negF6_ok .nil)))))) Try.func52 (bodied Try.func52 (by kernel_rfl) (by kernel_rfl)) 300 (kRow Fp12) ((kRow Fp12).rs2 kInt) invF12 (invF12_run subF6 mulF6 upF6 invF6 negF6) (invF12_sat subF6 mulF6 upF6 invF6 negF6)

end Go.Proofs.Ytehhcpopfgieeaa
