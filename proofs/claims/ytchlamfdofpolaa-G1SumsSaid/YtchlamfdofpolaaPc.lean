/- Package fp2. -/
import Derived.Test.YtchlamfdofpolaaPa
import Derived.Test.YtchlamfdofpolaaEE
set_option linter.unusedSimpArgs false
set_option linter.unusedVariables false
namespace Go.Proofs.Ytchlamfdofpolaa
open Go.RowKit

def mayF2_G (f0 : Fp → Bool) (a : Fp2) : Bool := (match (f0 a.c0) with | true => ((f0 a.c1)) | false => ((false)))
def mayF2_T (f0 : Fp → Bool) (a : Fp2) : Tree (Option (Bool)) :=
  (.br (f0 a.c0)
    (.leaf (some ((f0 a.c1))))
    (.leaf (some ((false)))))
theorem mayF2_run (f0 : Fp → Bool) (a : Fp2) : plainRun (En [(65, Kfb f0)]) kBool.rs 300 Try.f89 [.one ((kRow Fp2).av a)] = mayF2_T f0 a := by kernel_rfl
theorem mayF2_sat (f0 : Fp → Bool) (a : Fp2) : (mayF2_T f0 a).sat fun q => q = some (mayF2_G f0 a) := ⟨fun h0 => (show some _ = some _ from congrArg some (by unfold mayF2_G; rw [h0])), fun h0 => (show some _ = some _ from congrArg some (by unfold mayF2_G; rw [h0]))⟩
def mayF2 (a : Fp2) : Bool := mayF2_G mayF a
theorem mayF2_ok : CallOk Try.prog 89 (K1 (kRow Fp2).arg kBool.rs.res mayF2) :=
  P1 (En_ok (.cons may_ok .nil)) Try.func89 (bodied Try.func89 (by kernel_rfl) (by kernel_rfl)) 300 (kRow Fp2) kBool.rs mayF2 (mayF2_run mayF) (mayF2_sat mayF)
def addF2_G (f0 : Fp → Fp → Fp) (a : Fp2) (b : Fp2) : Fp2 := ({ c0 := f0 a.c0 b.c0, c1 := f0 a.c1 b.c1 })
def addF2_T (f0 : Fp → Fp → Fp) (a : Fp2) (b : Fp2) : Tree (Option (Fp2)) :=
  (.leaf (some ({ c0 := f0 a.c0 b.c0, c1 := f0 a.c1 b.c1 })))
theorem addF2_run (f0 : Fp → Fp → Fp) (a : Fp2) (b : Fp2) : plainRun (En [(104, Kff f0)]) (kRow Fp2).rs 300 Try.f131 [.one ((kRow Fp2).av a), .one ((kRow Fp2).av b)] = addF2_T f0 a b := by kernel_rfl
theorem addF2_sat (f0 : Fp → Fp → Fp) (a : Fp2) (b : Fp2) : (addF2_T f0 a b).sat fun q => q = some (addF2_G f0 a b) := (show some _ = some _ from rfl)
def addF2 (a : Fp2) (b : Fp2) : Fp2 := addF2_G addF a b
theorem addF2_ok : CallOk Try.prog 131 (K2 (kRow Fp2).arg (kRow Fp2).arg (kRow Fp2).rs.res addF2) :=
  P2 (En_ok (.cons add_ok .nil)) Try.func131 (bodied Try.func131 (by kernel_rfl) (by kernel_rfl)) 300 (kRow Fp2) (kRow Fp2) (kRow Fp2).rs addF2 (addF2_run addF) (addF2_sat addF)
def subF2_G (f0 : Fp → Fp → Fp) (a : Fp2) (b : Fp2) : Fp2 := ({ c0 := f0 a.c0 b.c0, c1 := f0 a.c1 b.c1 })
def subF2_T (f0 : Fp → Fp → Fp) (a : Fp2) (b : Fp2) : Tree (Option (Fp2)) :=
  (.leaf (some ({ c0 := f0 a.c0 b.c0, c1 := f0 a.c1 b.c1 })))
theorem subF2_run (f0 : Fp → Fp → Fp) (a : Fp2) (b : Fp2) : plainRun (En [(103, Kff f0)]) (kRow Fp2).rs 300 Try.f130 [.one ((kRow Fp2).av a), .one ((kRow Fp2).av b)] = subF2_T f0 a b := by kernel_rfl
theorem subF2_sat (f0 : Fp → Fp → Fp) (a : Fp2) (b : Fp2) : (subF2_T f0 a b).sat fun q => q = some (subF2_G f0 a b) := (show some _ = some _ from rfl)
def subF2 (a : Fp2) (b : Fp2) : Fp2 := subF2_G subF a b
theorem subF2_ok : CallOk Try.prog 130 (K2 (kRow Fp2).arg (kRow Fp2).arg (kRow Fp2).rs.res subF2) :=
  P2 (En_ok (.cons sub_ok .nil)) Try.func130 (bodied Try.func130 (by kernel_rfl) (by kernel_rfl)) 300 (kRow Fp2) (kRow Fp2) (kRow Fp2).rs subF2 (subF2_run subF) (subF2_sat subF)
def negF2_G (f0 : Fp → Fp) (a : Fp2) : Fp2 := ({ c0 := f0 a.c0, c1 := f0 a.c1 })
def negF2_T (f0 : Fp → Fp) (a : Fp2) : Tree (Option (Fp2)) :=
  (.leaf (some ({ c0 := f0 a.c0, c1 := f0 a.c1 })))
theorem negF2_run (f0 : Fp → Fp) (a : Fp2) : plainRun (En [(61, Kf f0)]) (kRow Fp2).rs 300 Try.f86 [.one ((kRow Fp2).av a)] = negF2_T f0 a := by kernel_rfl
theorem negF2_sat (f0 : Fp → Fp) (a : Fp2) : (negF2_T f0 a).sat fun q => q = some (negF2_G f0 a) := (show some _ = some _ from rfl)
def negF2 (a : Fp2) : Fp2 := negF2_G negF a
theorem negF2_ok : CallOk Try.prog 86 (K1 (kRow Fp2).arg (kRow Fp2).rs.res negF2) :=
  P1 (En_ok (.cons neg_ok .nil)) Try.func86 (bodied Try.func86 (by kernel_rfl) (by kernel_rfl)) 300 (kRow Fp2) (kRow Fp2).rs negF2 (negF2_run negF) (negF2_sat negF)
def halfF2_G (f0 : Fp → Fp → Fp) (f1 : Fp → Fp → Fp) (f2 : Fp → Fp → Fp) (a : Fp2) (b : Fp2) : Fp2 := ({ c0 := f2 (f0 a.c0 b.c0) (f0 a.c1 b.c1), c1 := f2 (f0 (f1 a.c0 a.c1) (f1 b.c0 b.c1)) (f1 (f0 a.c0 b.c0) (f0 a.c1 b.c1)) })
def halfF2_T (f0 : Fp → Fp → Fp) (f1 : Fp → Fp → Fp) (f2 : Fp → Fp → Fp) (a : Fp2) (b : Fp2) : Tree (Option (Fp2)) :=
  (.leaf (some ({ c0 := f2 (f0 a.c0 b.c0) (f0 a.c1 b.c1), c1 := f2 (f0 (f1 a.c0 a.c1) (f1 b.c0 b.c1)) (f1 (f0 a.c0 b.c0) (f0 a.c1 b.c1)) })))
theorem halfF2_run (f0 : Fp → Fp → Fp) (f1 : Fp → Fp → Fp) (f2 : Fp → Fp → Fp) (a : Fp2) (b : Fp2) : plainRun (En [(102, Kff f0), (104, Kff f1), (103, Kff f2)]) (kRow Fp2).rs 300 Try.f129 [.one ((kRow Fp2).av a), .one ((kRow Fp2).av b)] = halfF2_T f0 f1 f2 a b := by kernel_rfl
theorem halfF2_sat (f0 : Fp → Fp → Fp) (f1 : Fp → Fp → Fp) (f2 : Fp → Fp → Fp) (a : Fp2) (b : Fp2) : (halfF2_T f0 f1 f2 a b).sat fun q => q = some (halfF2_G f0 f1 f2 a b) := (show some _ = some _ from rfl)
def halfF2 (a : Fp2) (b : Fp2) : Fp2 := halfF2_G halfF addF subF a b
theorem halfF2_ok : CallOk Try.prog 129 (K2 (kRow Fp2).arg (kRow Fp2).arg (kRow Fp2).rs.res halfF2) :=
  P2 (En_ok (.cons half_ok (.cons add_ok (.cons sub_ok .nil)))) Try.func129 (bodied Try.func129 (by kernel_rfl) (by kernel_rfl)) 300 (kRow Fp2) (kRow Fp2) (kRow Fp2).rs halfF2 (halfF2_run halfF addF subF) (halfF2_sat halfF addF subF)
def wholeF2_G (f0 : Fp → Fp) (a : Fp2) : Fp2 := ({ c0 := f0 a.c0, c1 := f0 a.c1 })
def wholeF2_T (f0 : Fp → Fp) (a : Fp2) : Tree (Option (Fp2)) :=
  (.leaf (some ({ c0 := f0 a.c0, c1 := f0 a.c1 })))
theorem wholeF2_run (f0 : Fp → Fp) (a : Fp2) : plainRun (En [(105, Kf f0)]) (kRow Fp2).rs 300 Try.f132 [.one ((kRow Fp2).av a)] = wholeF2_T f0 a := by kernel_rfl
theorem wholeF2_sat (f0 : Fp → Fp) (a : Fp2) : (wholeF2_T f0 a).sat fun q => q = some (wholeF2_G f0 a) := (show some _ = some _ from rfl)
def wholeF2 (a : Fp2) : Fp2 := wholeF2_G wholeF a
theorem wholeF2_ok : CallOk Try.prog 132 (K1 (kRow Fp2).arg (kRow Fp2).rs.res wholeF2) :=
  P1 (En_ok (.cons whole_ok .nil)) Try.func132 (bodied Try.func132 (by kernel_rfl) (by kernel_rfl)) 300 (kRow Fp2) (kRow Fp2).rs wholeF2 (wholeF2_run wholeF) (wholeF2_sat wholeF)
def lowF2_G (f0 : Fp → Fp) (a : Fp2) : Fp2 := ({ c0 := f0 a.c0, c1 := f0 a.c1 })
def lowF2_T (f0 : Fp → Fp) (a : Fp2) : Tree (Option (Fp2)) :=
  (.leaf (some ({ c0 := f0 a.c0, c1 := f0 a.c1 })))
theorem lowF2_run (f0 : Fp → Fp) (a : Fp2) : plainRun (En [(101, Kf f0)]) (kRow Fp2).rs 300 Try.f128 [.one ((kRow Fp2).av a)] = lowF2_T f0 a := by kernel_rfl
theorem lowF2_sat (f0 : Fp → Fp) (a : Fp2) : (lowF2_T f0 a).sat fun q => q = some (lowF2_G f0 a) := (show some _ = some _ from rfl)
def lowF2 (a : Fp2) : Fp2 := lowF2_G lowF a
theorem lowF2_ok : CallOk Try.prog 128 (K1 (kRow Fp2).arg (kRow Fp2).rs.res lowF2) :=
  P1 (En_ok (.cons low_ok .nil)) Try.func128 (bodied Try.func128 (by kernel_rfl) (by kernel_rfl)) 300 (kRow Fp2) (kRow Fp2).rs lowF2 (lowF2_run lowF) (lowF2_sat lowF)
def mulF2_G (f0 : Fp2 → Fp2 → Fp2) (f1 : Fp2 → Fp2) (a : Fp2) (b : Fp2) : Fp2 := (f1 (f0 a b))
def mulF2_T (f0 : Fp2 → Fp2 → Fp2) (f1 : Fp2 → Fp2) (a : Fp2) (b : Fp2) : Tree (Option (Fp2)) :=
  (.leaf (some (f1 (f0 a b))))
theorem mulF2_run (f0 : Fp2 → Fp2 → Fp2) (f1 : Fp2 → Fp2) (a : Fp2) (b : Fp2) : plainRun (En [(129, K2 (kRow Fp2).arg (kRow Fp2).arg (kRow Fp2).rs.res f0), (132, K1 (kRow Fp2).arg (kRow Fp2).rs.res f1)]) (kRow Fp2).rs 300 Try.f90 [.one ((kRow Fp2).av a), .one ((kRow Fp2).av b)] = mulF2_T f0 f1 a b := by kernel_rfl
theorem mulF2_sat (f0 : Fp2 → Fp2 → Fp2) (f1 : Fp2 → Fp2) (a : Fp2) (b : Fp2) : (mulF2_T f0 f1 a b).sat fun q => q = some (mulF2_G f0 f1 a b) := (show some _ = some _ from rfl)
def mulF2 (a : Fp2) (b : Fp2) : Fp2 := mulF2_G halfF2 wholeF2 a b
theorem mulF2_ok : CallOk Try.prog 90 (K2 (kRow Fp2).arg (kRow Fp2).arg (kRow Fp2).rs.res mulF2) :=
  P2 (En_ok (.cons halfF2_ok (.cons wholeF2_ok .nil))) Try.func90 (bodied Try.func90 (by kernel_rfl) (by kernel_rfl)) 300 (kRow Fp2) (kRow Fp2) (kRow Fp2).rs mulF2 (mulF2_run halfF2 wholeF2) (mulF2_sat halfF2 wholeF2)
def conjF2_G (f0 : Fp → Fp) (a : Fp2) : Fp2 := ({ c0 := a.c0, c1 := f0 a.c1 })
def conjF2_T (f0 : Fp → Fp) (a : Fp2) : Tree (Option (Fp2)) :=
  (.leaf (some ({ c0 := a.c0, c1 := f0 a.c1 })))
theorem conjF2_run (f0 : Fp → Fp) (a : Fp2) : plainRun (En [(61, Kf f0)]) (kRow Fp2).rs 300 Try.f148 [.one ((kRow Fp2).av a)] = conjF2_T f0 a := by kernel_rfl
theorem conjF2_sat (f0 : Fp → Fp) (a : Fp2) : (conjF2_T f0 a).sat fun q => q = some (conjF2_G f0 a) := (show some _ = some _ from rfl)
def conjF2 (a : Fp2) : Fp2 := conjF2_G negF a
theorem conjF2_ok : CallOk Try.prog 148 (K1 (kRow Fp2).arg (kRow Fp2).rs.res conjF2) :=
  P1 (En_ok (.cons neg_ok .nil)) Try.func148 (bodied Try.func148 (by kernel_rfl) (by kernel_rfl)) 300 (kRow Fp2) (kRow Fp2).rs conjF2 (conjF2_run negF) (conjF2_sat negF)
def normF2_G (f0 : Fp → Fp → Fp) (f1 : Fp → Fp → Fp) (a : Fp2) : Fp := (f0 (f1 a.c0 a.c0) (f1 a.c1 a.c1))
def normF2_T (f0 : Fp → Fp → Fp) (f1 : Fp → Fp → Fp) (a : Fp2) : Tree (Option (Fp)) :=
  (.leaf (some (f0 (f1 a.c0 a.c0) (f1 a.c1 a.c1))))
theorem normF2_run (f0 : Fp → Fp → Fp) (f1 : Fp → Fp → Fp) (a : Fp2) : plainRun (En [(104, Kff f0), (66, Kff f1)]) (kRow Fp).rs 300 Try.f146 [.one ((kRow Fp2).av a)] = normF2_T f0 f1 a := by kernel_rfl
theorem normF2_sat (f0 : Fp → Fp → Fp) (f1 : Fp → Fp → Fp) (a : Fp2) : (normF2_T f0 f1 a).sat fun q => q = some (normF2_G f0 f1 a) := (show some _ = some _ from rfl)
def normF2 (a : Fp2) : Fp := normF2_G addF mulF a
theorem normF2_ok : CallOk Try.prog 146 (K1 (kRow Fp2).arg (kRow Fp).rs.res normF2) :=
  P1 (En_ok (.cons add_ok (.cons mul_ok .nil))) Try.func146 (bodied Try.func146 (by kernel_rfl) (by kernel_rfl)) 300 (kRow Fp2) (kRow Fp).rs normF2 (normF2_run addF mulF) (normF2_sat addF mulF)
def scaledF2_G (f0 : Fp → Fp → Fp) (a : Fp2) (k : Fp) : Fp2 := ({ c0 := f0 a.c0 k, c1 := f0 a.c1 k })
def scaledF2_T (f0 : Fp → Fp → Fp) (a : Fp2) (k : Fp) : Tree (Option (Fp2)) :=
  (.leaf (some ({ c0 := f0 a.c0 k, c1 := f0 a.c1 k })))
theorem scaledF2_run (f0 : Fp → Fp → Fp) (a : Fp2) (k : Fp) : plainRun (En [(66, Kff f0)]) (kRow Fp2).rs 300 Try.f147 [.one ((kRow Fp2).av a), .one ((kRow Fp).av k)] = scaledF2_T f0 a k := by kernel_rfl
theorem scaledF2_sat (f0 : Fp → Fp → Fp) (a : Fp2) (k : Fp) : (scaledF2_T f0 a k).sat fun q => q = some (scaledF2_G f0 a k) := (show some _ = some _ from rfl)
def scaledF2 (a : Fp2) (k : Fp) : Fp2 := scaledF2_G mulF a k
theorem scaledF2_ok : CallOk Try.prog 147 (K2 (kRow Fp2).arg (kRow Fp).arg (kRow Fp2).rs.res scaledF2) :=
  P2 (En_ok (.cons mul_ok .nil)) Try.func147 (bodied Try.func147 (by kernel_rfl) (by kernel_rfl)) 300 (kRow Fp2) (kRow Fp) (kRow Fp2).rs scaledF2 (scaledF2_run mulF) (scaledF2_sat mulF)
def invF2_G (f0 : Fp → Fp × Int) (f1 : Fp2 → Fp) (f2 : Fp2 → Fp → Fp2) (f3 : Fp2 → Fp2) (a : Fp2) : Fp2 × Int := (match ((f0 (f1 a)).snd != 0) with | true => ((zeroFp2, (f0 (f1 a)).snd)) | false => ((f2 (f3 a) (f0 (f1 a)).fst, 0)))
def invF2_T (f0 : Fp → Fp × Int) (f1 : Fp2 → Fp) (f2 : Fp2 → Fp → Fp2) (f3 : Fp2 → Fp2) (a : Fp2) : Tree (Option (Fp2 × Int)) :=
  (.br ((f0 (f1 a)).snd != 0)
    (.leaf (some ((zeroFp2, (f0 (f1 a)).snd))))
    (.leaf (some ((f2 (f3 a) (f0 (f1 a)).fst, 0)))))
theorem invF2_run (f0 : Fp → Fp × Int) (f1 : Fp2 → Fp) (f2 : Fp2 → Fp → Fp2) (f3 : Fp2 → Fp2) (a : Fp2) : plainRun (En [(100, Kinv f0), (146, K1 (kRow Fp2).arg (kRow Fp).rs.res f1), (147, K2 (kRow Fp2).arg (kRow Fp).arg (kRow Fp2).rs.res f2), (148, K1 (kRow Fp2).arg (kRow Fp2).rs.res f3)]) ((kRow Fp2).rs2 kInt) 300 Try.f127 [.one ((kRow Fp2).av a)] = invF2_T f0 f1 f2 f3 a := by kernel_rfl
theorem invF2_sat (f0 : Fp → Fp × Int) (f1 : Fp2 → Fp) (f2 : Fp2 → Fp → Fp2) (f3 : Fp2 → Fp2) (a : Fp2) : (invF2_T f0 f1 f2 f3 a).sat fun q => q = some (invF2_G f0 f1 f2 f3 a) := ⟨fun h0 => (show some _ = some _ from congrArg some (by unfold invF2_G; rw [h0])), fun h0 => (show some _ = some _ from congrArg some (by unfold invF2_G; rw [h0]))⟩
def invF2 (a : Fp2) : Fp2 × Int := invF2_G invF normF2 scaledF2 conjF2 a
theorem invF2_ok : CallOk Try.prog 127 (K1 (kRow Fp2).arg ((kRow Fp2).rs2 kInt).res invF2) :=
  P1 (En_ok (.cons inv_ok (.cons normF2_ok (.cons scaledF2_ok (.cons conjF2_ok .nil))))) Try.func127 (bodied Try.func127 (by kernel_rfl) (by kernel_rfl)) 300 (kRow Fp2) ((kRow Fp2).rs2 kInt) invF2 (invF2_run invF normF2 scaledF2 conjF2) (invF2_sat invF normF2 scaledF2 conjF2)
end Go.Proofs.Ytchlamfdofpolaa
