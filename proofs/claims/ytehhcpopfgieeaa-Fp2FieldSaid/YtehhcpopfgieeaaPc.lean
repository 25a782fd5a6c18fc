/- Package fp2. -/
import Derived.Test.YtehhcpopfgieeaaPa
import Derived.Test.YtehhcpopfgieeaaEE
set_option linter.unusedSimpArgs false
set_option linter.unusedVariables false
namespace Go.Proofs.Ytehhcpopfgieeaa
open Go.RowKit

def mayF2_G (f0 : Fp → Bool) (a : Fp2) : Bool := (match (f0 a.c0) with | true => ((f0 a.c1)) | false => ((false)))
def mayF2_T (f0 : Fp → Bool) (a : Fp2) : Tree (Option (Bool)) :=
  (.br (f0 a.c0)
    (.leaf (some ((f0 a.c1))))
    (.leaf (some ((false)))))
theorem mayF2_run (f0 : Fp → Bool) (a : Fp2) : plainRun (En [(80, Kfb f0)]) kBool.rs 300 Try.f33 [.one ((kRow Fp2).av a)] = mayF2_T f0 a := by kernel_rfl
theorem mayF2_sat (f0 : Fp → Bool) (a : Fp2) : (mayF2_T f0 a).sat fun q => q = some (mayF2_G f0 a) := ⟨fun h0 => (show some _ = some _ from congrArg some (by unfold mayF2_G; rw [h0])), fun h0 => (show some _ = some _ from congrArg some (by unfold mayF2_G; rw [h0]))⟩
def mayF2 (a : Fp2) : Bool := mayF2_G mayF a
theorem mayF2_ok : CallOk Try.prog 33 (K1 (kRow Fp2).arg kBool.rs.res mayF2) :=
  P1 (En_ok (.cons may_ok .nil)) Try.func33 (bodied Try.func33 (by kernel_rfl) (by kernel_rfl)) 300 (kRow Fp2) kBool.rs mayF2 (mayF2_run mayF) (mayF2_sat mayF)
def addF2_G (f0 : Fp → Fp → Fp) (a : Fp2) (b : Fp2) : Fp2 := ({ c0 := f0 a.c0 b.c0, c1 := f0 a.c1 b.c1 })
def addF2_T (f0 : Fp → Fp → Fp) (a : Fp2) (b : Fp2) : Tree (Option (Fp2)) :=
  (.leaf (some ({ c0 := f0 a.c0 b.c0, c1 := f0 a.c1 b.c1 })))
theorem addF2_run (f0 : Fp → Fp → Fp) (a : Fp2) (b : Fp2) : plainRun (En [(84, Kff f0)]) (kRow Fp2).rs 300 Try.f36 [.one ((kRow Fp2).av a), .one ((kRow Fp2).av b)] = addF2_T f0 a b := by kernel_rfl
theorem addF2_sat (f0 : Fp → Fp → Fp) (a : Fp2) (b : Fp2) : (addF2_T f0 a b).sat fun q => q = some (addF2_G f0 a b) := (show some _ = some _ from rfl)
def addF2 (a : Fp2) (b : Fp2) : Fp2 := addF2_G addF a b
theorem addF2_ok : CallOk Try.prog 36 (K2 (kRow Fp2).arg (kRow Fp2).arg (kRow Fp2).rs.res addF2) :=
  P2 (En_ok (.cons add_ok .nil)) Try.func36 (bodied Try.func36 (by kernel_rfl) (by kernel_rfl)) 300 (kRow Fp2) (kRow Fp2) (kRow Fp2).rs addF2 (addF2_run addF) (addF2_sat addF)
def subF2_G (f0 : Fp → Fp → Fp) (a : Fp2) (b : Fp2) : Fp2 := ({ c0 := f0 a.c0 b.c0, c1 := f0 a.c1 b.c1 })
def subF2_T (f0 : Fp → Fp → Fp) (a : Fp2) (b : Fp2) : Tree (Option (Fp2)) :=
  (.leaf (some ({ c0 := f0 a.c0 b.c0, c1 := f0 a.c1 b.c1 })))
theorem subF2_run (f0 : Fp → Fp → Fp) (a : Fp2) (b : Fp2) : plainRun (En [(86, Kff f0)]) (kRow Fp2).rs 300 Try.f38 [.one ((kRow Fp2).av a), .one ((kRow Fp2).av b)] = subF2_T f0 a b := by kernel_rfl
theorem subF2_sat (f0 : Fp → Fp → Fp) (a : Fp2) (b : Fp2) : (subF2_T f0 a b).sat fun q => q = some (subF2_G f0 a b) := (show some _ = some _ from rfl)
def subF2 (a : Fp2) (b : Fp2) : Fp2 := subF2_G subF a b
theorem subF2_ok : CallOk Try.prog 38 (K2 (kRow Fp2).arg (kRow Fp2).arg (kRow Fp2).rs.res subF2) :=
  P2 (En_ok (.cons sub_ok .nil)) Try.func38 (bodied Try.func38 (by kernel_rfl) (by kernel_rfl)) 300 (kRow Fp2) (kRow Fp2) (kRow Fp2).rs subF2 (subF2_run subF) (subF2_sat subF)
def negF2_G (f0 : Fp → Fp) (a : Fp2) : Fp2 := ({ c0 := f0 a.c0, c1 := f0 a.c1 })
def negF2_T (f0 : Fp → Fp) (a : Fp2) : Tree (Option (Fp2)) :=
  (.leaf (some ({ c0 := f0 a.c0, c1 := f0 a.c1 })))
theorem negF2_run (f0 : Fp → Fp) (a : Fp2) : plainRun (En [(78, Kf f0)]) (kRow Fp2).rs 300 Try.f31 [.one ((kRow Fp2).av a)] = negF2_T f0 a := by kernel_rfl
theorem negF2_sat (f0 : Fp → Fp) (a : Fp2) : (negF2_T f0 a).sat fun q => q = some (negF2_G f0 a) := (show some _ = some _ from rfl)
def negF2 (a : Fp2) : Fp2 := negF2_G negF a
theorem negF2_ok : CallOk Try.prog 31 (K1 (kRow Fp2).arg (kRow Fp2).rs.res negF2) :=
  P1 (En_ok (.cons neg_ok .nil)) Try.func31 (bodied Try.func31 (by kernel_rfl) (by kernel_rfl)) 300 (kRow Fp2) (kRow Fp2).rs negF2 (negF2_run negF) (negF2_sat negF)
def halfF2_G (f0 : Fp → Fp → Fp) (f1 : Fp → Fp → Fp) (f2 : Fp → Fp → Fp) (a : Fp2) (b : Fp2) : Fp2 := ({ c0 := f2 (f0 a.c0 b.c0) (f0 a.c1 b.c1), c1 := f2 (f0 (f1 a.c0 a.c1) (f1 b.c0 b.c1)) (f1 (f0 a.c0 b.c0) (f0 a.c1 b.c1)) })
def halfF2_T (f0 : Fp → Fp → Fp) (f1 : Fp → Fp → Fp) (f2 : Fp → Fp → Fp) (a : Fp2) (b : Fp2) : Tree (Option (Fp2)) :=
  (.leaf (some ({ c0 := f2 (f0 a.c0 b.c0) (f0 a.c1 b.c1), c1 := f2 (f0 (f1 a.c0 a.c1) (f1 b.c0 b.c1)) (f1 (f0 a.c0 b.c0) (f0 a.c1 b.c1)) })))
theorem halfF2_run (f0 : Fp → Fp → Fp) (f1 : Fp → Fp → Fp) (f2 : Fp → Fp → Fp) (a : Fp2) (b : Fp2) : plainRun (En [(111, Kff f0), (84, Kff f1), (86, Kff f2)]) (kRow Fp2).rs 300 Try.f77 [.one ((kRow Fp2).av a), .one ((kRow Fp2).av b)] = halfF2_T f0 f1 f2 a b := by kernel_rfl
theorem halfF2_sat (f0 : Fp → Fp → Fp) (f1 : Fp → Fp → Fp) (f2 : Fp → Fp → Fp) (a : Fp2) (b : Fp2) : (halfF2_T f0 f1 f2 a b).sat fun q => q = some (halfF2_G f0 f1 f2 a b) := (show some _ = some _ from rfl)
def halfF2 (a : Fp2) (b : Fp2) : Fp2 := halfF2_G halfF addF subF a b
theorem halfF2_ok : CallOk Try.prog 77 (K2 (kRow Fp2).arg (kRow Fp2).arg (kRow Fp2).rs.res halfF2) :=
  P2 (En_ok (.cons half_ok (.cons add_ok (.cons sub_ok .nil)))) Try.func77 (bodied Try.func77 (by kernel_rfl) (by kernel_rfl)) 300 (kRow Fp2) (kRow Fp2) (kRow Fp2).rs halfF2 (halfF2_run halfF addF subF) (halfF2_sat halfF addF subF)
def wholeF2_G (f0 : Fp → Fp) (a : Fp2) : Fp2 := ({ c0 := f0 a.c0, c1 := f0 a.c1 })
def wholeF2_T (f0 : Fp → Fp) (a : Fp2) : Tree (Option (Fp2)) :=
  (.leaf (some ({ c0 := f0 a.c0, c1 := f0 a.c1 })))
theorem wholeF2_run (f0 : Fp → Fp) (a : Fp2) : plainRun (En [(110, Kf f0)]) (kRow Fp2).rs 300 Try.f76 [.one ((kRow Fp2).av a)] = wholeF2_T f0 a := by kernel_rfl
theorem wholeF2_sat (f0 : Fp → Fp) (a : Fp2) : (wholeF2_T f0 a).sat fun q => q = some (wholeF2_G f0 a) := (show some _ = some _ from rfl)
def wholeF2 (a : Fp2) : Fp2 := wholeF2_G wholeF a
theorem wholeF2_ok : CallOk Try.prog 76 (K1 (kRow Fp2).arg (kRow Fp2).rs.res wholeF2) :=
  P1 (En_ok (.cons whole_ok .nil)) Try.func76 (bodied Try.func76 (by kernel_rfl) (by kernel_rfl)) 300 (kRow Fp2) (kRow Fp2).rs wholeF2 (wholeF2_run wholeF) (wholeF2_sat wholeF)
def lowF2_G (f0 : Fp → Fp) (a : Fp2) : Fp2 := ({ c0 := f0 a.c0, c1 := f0 a.c1 })
def lowF2_T (f0 : Fp → Fp) (a : Fp2) : Tree (Option (Fp2)) :=
  (.leaf (some ({ c0 := f0 a.c0, c1 := f0 a.c1 })))
theorem lowF2_run (f0 : Fp → Fp) (a : Fp2) : plainRun (En [(126, Kf f0)]) (kRow Fp2).rs 300 Try.f101 [.one ((kRow Fp2).av a)] = lowF2_T f0 a := by kernel_rfl
theorem lowF2_sat (f0 : Fp → Fp) (a : Fp2) : (lowF2_T f0 a).sat fun q => q = some (lowF2_G f0 a) := (show some _ = some _ from rfl)
def lowF2 (a : Fp2) : Fp2 := lowF2_G lowF a
theorem lowF2_ok : CallOk Try.prog 101 (K1 (kRow Fp2).arg (kRow Fp2).rs.res lowF2) :=
  P1 (En_ok (.cons low_ok .nil)) Try.func101 (bodied Try.func101 (by kernel_rfl) (by kernel_rfl)) 300 (kRow Fp2) (kRow Fp2).rs lowF2 (lowF2_run lowF) (lowF2_sat lowF)
def mulF2_G (f0 : Fp2 → Fp2 → Fp2) (f1 : Fp2 → Fp2) (a : Fp2) (b : Fp2) : Fp2 := (f1 (f0 a b))
def mulF2_T (f0 : Fp2 → Fp2 → Fp2) (f1 : Fp2 → Fp2) (a : Fp2) (b : Fp2) : Tree (Option (Fp2)) :=
  (.leaf (some (f1 (f0 a b))))
theorem mulF2_run (f0 : Fp2 → Fp2 → Fp2) (f1 : Fp2 → Fp2) (a : Fp2) (b : Fp2) : plainRun (En [(77, K2 (kRow Fp2).arg (kRow Fp2).arg (kRow Fp2).rs.res f0), (76, K1 (kRow Fp2).arg (kRow Fp2).rs.res f1)]) (kRow Fp2).rs 300 Try.f30 [.one ((kRow Fp2).av a), .one ((kRow Fp2).av b)] = mulF2_T f0 f1 a b := by kernel_rfl
theorem mulF2_sat (f0 : Fp2 → Fp2 → Fp2) (f1 : Fp2 → Fp2) (a : Fp2) (b : Fp2) : (mulF2_T f0 f1 a b).sat fun q => q = some (mulF2_G f0 f1 a b) := (show some _ = some _ from rfl)
def mulF2 (a : Fp2) (b : Fp2) : Fp2 := mulF2_G halfF2 wholeF2 a b
theorem mulF2_ok : CallOk Try.prog 30 (K2 (kRow Fp2).arg (kRow Fp2).arg (kRow Fp2).rs.res mulF2) :=
  P2 (En_ok (.cons halfF2_ok (.cons wholeF2_ok .nil))) Try.func30 (bodied Try.func30 (by kernel_rfl) (by kernel_rfl)) 300 (kRow Fp2) (kRow Fp2) (kRow Fp2).rs mulF2 (mulF2_run halfF2 wholeF2) (mulF2_sat halfF2 wholeF2)
def conjF2_G (f0 : Fp → Fp) (a : Fp2) : Fp2 := ({ c0 := a.c0, c1 := f0 a.c1 })
def conjF2_T (f0 : Fp → Fp) (a : Fp2) : Tree (Option (Fp2)) :=
  (.leaf (some ({ c0 := a.c0, c1 := f0 a.c1 })))
theorem conjF2_run (f0 : Fp → Fp) (a : Fp2) : plainRun (En [(78, Kf f0)]) (kRow Fp2).rs 300 Try.f42 [.one ((kRow Fp2).av a)] = conjF2_T f0 a := by kernel_rfl
theorem conjF2_sat (f0 : Fp → Fp) (a : Fp2) : (conjF2_T f0 a).sat fun q => q = some (conjF2_G f0 a) := (show some _ = some _ from rfl)
def conjF2 (a : Fp2) : Fp2 := conjF2_G negF a
theorem conjF2_ok : CallOk Try.prog 42 (K1 (kRow Fp2).arg (kRow Fp2).rs.res conjF2) :=
  P1 (En_ok (.cons neg_ok .nil)) Try.func42 (bodied Try.func42 (by kernel_rfl) (by kernel_rfl)) 300 (kRow Fp2) (kRow Fp2).rs conjF2 (conjF2_run negF) (conjF2_sat negF)
def upF2_G (f0 : Fp → Fp → Fp) (f1 : Fp → Fp → Fp) (a : Fp2) : Fp2 := ({ c0 := f1 a.c0 a.c1, c1 := f0 a.c0 a.c1 })
def upF2_T (f0 : Fp → Fp → Fp) (f1 : Fp → Fp → Fp) (a : Fp2) : Tree (Option (Fp2)) :=
  (.leaf (some ({ c0 := f1 a.c0 a.c1, c1 := f0 a.c0 a.c1 })))
theorem upF2_run (f0 : Fp → Fp → Fp) (f1 : Fp → Fp → Fp) (a : Fp2) : plainRun (En [(84, Kff f0), (86, Kff f1)]) (kRow Fp2).rs 300 Try.f66 [.one ((kRow Fp2).av a)] = upF2_T f0 f1 a := by kernel_rfl
theorem upF2_sat (f0 : Fp → Fp → Fp) (f1 : Fp → Fp → Fp) (a : Fp2) : (upF2_T f0 f1 a).sat fun q => q = some (upF2_G f0 f1 a) := (show some _ = some _ from rfl)
def upF2 (a : Fp2) : Fp2 := upF2_G addF subF a
theorem upF2_ok : CallOk Try.prog 66 (K1 (kRow Fp2).arg (kRow Fp2).rs.res upF2) :=
  P1 (En_ok (.cons add_ok (.cons sub_ok .nil))) Try.func66 (bodied Try.func66 (by kernel_rfl) (by kernel_rfl)) 300 (kRow Fp2) (kRow Fp2).rs upF2 (upF2_run addF subF) (upF2_sat addF subF)
def normF2_G (f0 : Fp → Fp → Fp) (f1 : Fp → Fp → Fp) (a : Fp2) : Fp := (f0 (f1 a.c0 a.c0) (f1 a.c1 a.c1))
def normF2_T (f0 : Fp → Fp → Fp) (f1 : Fp → Fp → Fp) (a : Fp2) : Tree (Option (Fp)) :=
  (.leaf (some (f0 (f1 a.c0 a.c0) (f1 a.c1 a.c1))))
theorem normF2_run (f0 : Fp → Fp → Fp) (f1 : Fp → Fp → Fp) (a : Fp2) : plainRun (En [(84, Kff f0), (108, Kff f1)]) (kRow Fp).rs 300 Try.f74 [.one ((kRow Fp2).av a)] = normF2_T f0 f1 a := by kernel_rfl
theorem normF2_sat (f0 : Fp → Fp → Fp) (f1 : Fp → Fp → Fp) (a : Fp2) : (normF2_T f0 f1 a).sat fun q => q = some (normF2_G f0 f1 a) := (show some _ = some _ from rfl)
def normF2 (a : Fp2) : Fp := normF2_G addF mulF a
theorem normF2_ok : CallOk Try.prog 74 (K1 (kRow Fp2).arg (kRow Fp).rs.res normF2) :=
  P1 (En_ok (.cons add_ok (.cons mul_ok .nil))) Try.func74 (bodied Try.func74 (by kernel_rfl) (by kernel_rfl)) 300 (kRow Fp2) (kRow Fp).rs normF2 (normF2_run addF mulF) (normF2_sat addF mulF)
def scaledF2_G (f0 : Fp → Fp → Fp) (a : Fp2) (k : Fp) : Fp2 := ({ c0 := f0 a.c0 k, c1 := f0 a.c1 k })
def scaledF2_T (f0 : Fp → Fp → Fp) (a : Fp2) (k : Fp) : Tree (Option (Fp2)) :=
  (.leaf (some ({ c0 := f0 a.c0 k, c1 := f0 a.c1 k })))
theorem scaledF2_run (f0 : Fp → Fp → Fp) (a : Fp2) (k : Fp) : plainRun (En [(108, Kff f0)]) (kRow Fp2).rs 300 Try.f82 [.one ((kRow Fp2).av a), .one ((kRow Fp).av k)] = scaledF2_T f0 a k := by kernel_rfl
theorem scaledF2_sat (f0 : Fp → Fp → Fp) (a : Fp2) (k : Fp) : (scaledF2_T f0 a k).sat fun q => q = some (scaledF2_G f0 a k) := (show some _ = some _ from rfl)
def scaledF2 (a : Fp2) (k : Fp) : Fp2 := scaledF2_G mulF a k
theorem scaledF2_ok : CallOk Try.prog 82 (K2 (kRow Fp2).arg (kRow Fp).arg (kRow Fp2).rs.res scaledF2) :=
  P2 (En_ok (.cons mul_ok .nil)) Try.func82 (bodied Try.func82 (by kernel_rfl) (by kernel_rfl)) 300 (kRow Fp2) (kRow Fp) (kRow Fp2).rs scaledF2 (scaledF2_run mulF) (scaledF2_sat mulF)
def invF2_G (f0 : Fp → Fp × Int) (f1 : Fp2 → Fp) (f2 : Fp2 → Fp → Fp2) (f3 : Fp2 → Fp2) (a : Fp2) : Fp2 × Int := (match ((f0 (f1 a)).snd != 0) with | true => ((zeroFp2, (f0 (f1 a)).snd)) | false => ((f2 (f3 a) (f0 (f1 a)).fst, 0)))
def invF2_T (f0 : Fp → Fp × Int) (f1 : Fp2 → Fp) (f2 : Fp2 → Fp → Fp2) (f3 : Fp2 → Fp2) (a : Fp2) : Tree (Option (Fp2 × Int)) :=
  (.br ((f0 (f1 a)).snd != 0)
    (.leaf (some ((zeroFp2, (f0 (f1 a)).snd))))
    (.leaf (some ((f2 (f3 a) (f0 (f1 a)).fst, 0)))))
theorem invF2_run (f0 : Fp → Fp × Int) (f1 : Fp2 → Fp) (f2 : Fp2 → Fp → Fp2) (f3 : Fp2 → Fp2) (a : Fp2) : plainRun (En [(81, Kinv f0), (74, K1 (kRow Fp2).arg (kRow Fp).rs.res f1), (82, K2 (kRow Fp2).arg (kRow Fp).arg (kRow Fp2).rs.res f2), (42, K1 (kRow Fp2).arg (kRow Fp2).rs.res f3)]) ((kRow Fp2).rs2 kInt) 300 Try.f34 [.one ((kRow Fp2).av a)] = invF2_T f0 f1 f2 f3 a := by kernel_rfl
theorem invF2_sat (f0 : Fp → Fp × Int) (f1 : Fp2 → Fp) (f2 : Fp2 → Fp → Fp2) (f3 : Fp2 → Fp2) (a : Fp2) : (invF2_T f0 f1 f2 f3 a).sat fun q => q = some (invF2_G f0 f1 f2 f3 a) := ⟨fun h0 => (show some _ = some _ from congrArg some (by unfold invF2_G; rw [h0])), fun h0 => (show some _ = some _ from congrArg some (by unfold invF2_G; rw [h0]))⟩
def invF2 (a : Fp2) : Fp2 × Int := invF2_G invF normF2 scaledF2 conjF2 a
theorem invF2_ok : CallOk Try.prog 34 (K1 (kRow Fp2).arg ((kRow Fp2).rs2 kInt).res invF2) :=
  P1 (En_ok (.cons inv_ok (.cons normF2_ok (.cons scaledF2_ok (.cons conjF2_ok .nil))))) Try.func34 (bodied Try.func34 (by kernel_rfl) (by kernel_rfl)) 300 (kRow Fp2) ((kRow Fp2).rs2 kInt) invF2 (invF2_run invF normF2 scaledF2 conjF2) (invF2_sat invF normF2 scaledF2 conjF2)
def greatF2_G (f0 : Fp → Bool) (a : Fp2) : Bool := (match (fpEq (a.c1) (zeroFp)) with | true => ((f0 a.c0)) | false => ((f0 a.c1)))
def greatF2_T (f0 : Fp → Bool) (a : Fp2) : Tree (Option (Bool)) :=
  (.br (fpEq (a.c1) (zeroFp))
    (.leaf (some ((f0 a.c0))))
    (.leaf (some ((f0 a.c1)))))
theorem greatF2_run (f0 : Fp → Bool) (a : Fp2) : plainRun (En [(79, Kfb f0)]) kBool.rs 300 Try.f32 [.one ((kRow Fp2).av a)] = greatF2_T f0 a := by kernel_rfl
theorem greatF2_sat (f0 : Fp → Bool) (a : Fp2) : (greatF2_T f0 a).sat fun q => q = some (greatF2_G f0 a) := ⟨fun h0 => (show some _ = some _ from congrArg some (by unfold greatF2_G; rw [h0])), fun h0 => (show some _ = some _ from congrArg some (by unfold greatF2_G; rw [h0]))⟩
def greatF2 (a : Fp2) : Bool := greatF2_G greatF a
theorem greatF2_ok : CallOk Try.prog 32 (K1 (kRow Fp2).arg kBool.rs.res greatF2) :=
  P1 (En_ok (.cons great_ok .nil)) Try.func32 (bodied Try.func32 (by kernel_rfl) (by kernel_rfl)) 300 (kRow Fp2) kBool.rs greatF2 (greatF2_run greatF) (greatF2_sat greatF)
def singleF2_G (f0 : Fp → Fp × Bool) (f1 : Fp → Fp) (a : Fp) : Fp2 := (match ((f0 a).snd) with | true => ({ c0 := (f0 a).fst, c1 := zeroFp }) | false => ({ c0 := zeroFp, c1 := (f0 (f1 a)).fst }))
def singleF2_T (f0 : Fp → Fp × Bool) (f1 : Fp → Fp) (a : Fp) : Tree (Option (Fp2)) :=
  (.br ((f0 a).snd)
    (.leaf (some ({ c0 := (f0 a).fst, c1 := zeroFp })))
    (.leaf (some ({ c0 := zeroFp, c1 := (f0 (f1 a)).fst }))))
theorem singleF2_run (f0 : Fp → Fp × Bool) (f1 : Fp → Fp) (a : Fp) : plainRun (En [(73, Ksqrt f0), (78, Kf f1)]) (kRow Fp2).rs 300 Try.f72 [.one ((kRow Fp).av a)] = singleF2_T f0 f1 a := by kernel_rfl
theorem singleF2_sat (f0 : Fp → Fp × Bool) (f1 : Fp → Fp) (a : Fp) : (singleF2_T f0 f1 a).sat fun q => q = some (singleF2_G f0 f1 a) := ⟨fun h0 => (show some _ = some _ from congrArg some (by unfold singleF2_G; rw [h0])), fun h0 => (show some _ = some _ from congrArg some (by unfold singleF2_G; rw [h0]))⟩
def singleF2 (a : Fp) : Fp2 := singleF2_G sqrtF negF a
theorem singleF2_ok : CallOk Try.prog 72 (K1 (kRow Fp).arg (kRow Fp2).rs.res singleF2) :=
  P1 (En_ok (.cons sqrt_ok (.cons neg_ok .nil))) Try.func72 (bodied Try.func72 (by kernel_rfl) (by kernel_rfl)) 300 (kRow Fp) (kRow Fp2).rs singleF2 (singleF2_run sqrtF negF) (singleF2_sat sqrtF negF)
def bothF2_G (f0 : Fp → Fp × Int) (f1 : UInt64 → Fp) (f2 : Fp → Fp × Bool) (f3 : Fp → Fp → Fp) (f4 : Fp → Fp → Fp) (f5 : Fp → Fp → Fp) (a : Fp2) (n : Fp) : Fp2 := (match (!((f2 (f5 (f3 a.c0 n) (f0 (f1 (2 : UInt64))).fst)).snd)) with | true => ({ c0 := (f2 (f5 (f4 a.c0 n) (f0 (f1 (2 : UInt64))).fst)).fst, c1 := f5 (f5 a.c1 (f0 (f1 (2 : UInt64))).fst) (f0 (f2 (f5 (f4 a.c0 n) (f0 (f1 (2 : UInt64))).fst)).fst).fst }) | false => ({ c0 := (f2 (f5 (f3 a.c0 n) (f0 (f1 (2 : UInt64))).fst)).fst, c1 := f5 (f5 a.c1 (f0 (f1 (2 : UInt64))).fst) (f0 (f2 (f5 (f3 a.c0 n) (f0 (f1 (2 : UInt64))).fst)).fst).fst }))
def bothF2_T (f0 : Fp → Fp × Int) (f1 : UInt64 → Fp) (f2 : Fp → Fp × Bool) (f3 : Fp → Fp → Fp) (f4 : Fp → Fp → Fp) (f5 : Fp → Fp → Fp) (a : Fp2) (n : Fp) : Tree (Option (Fp2)) :=
  (.br (!((f2 (f5 (f3 a.c0 n) (f0 (f1 (2 : UInt64))).fst)).snd))
    (.leaf (some ({ c0 := (f2 (f5 (f4 a.c0 n) (f0 (f1 (2 : UInt64))).fst)).fst, c1 := f5 (f5 a.c1 (f0 (f1 (2 : UInt64))).fst) (f0 (f2 (f5 (f4 a.c0 n) (f0 (f1 (2 : UInt64))).fst)).fst).fst })))
    (.leaf (some ({ c0 := (f2 (f5 (f3 a.c0 n) (f0 (f1 (2 : UInt64))).fst)).fst, c1 := f5 (f5 a.c1 (f0 (f1 (2 : UInt64))).fst) (f0 (f2 (f5 (f3 a.c0 n) (f0 (f1 (2 : UInt64))).fst)).fst).fst }))))
theorem bothF2_run (f0 : Fp → Fp × Int) (f1 : UInt64 → Fp) (f2 : Fp → Fp × Bool) (f3 : Fp → Fp → Fp) (f4 : Fp → Fp → Fp) (f5 : Fp → Fp → Fp) (a : Fp2) (n : Fp) : plainRun (En [(81, Kinv f0), (109, Kof f1), (73, Ksqrt f2), (84, Kff f3), (86, Kff f4), (108, Kff f5)]) (kRow Fp2).rs 300 Try.f75 [.one ((kRow Fp2).av a), .one ((kRow Fp).av n)] = bothF2_T f0 f1 f2 f3 f4 f5 a n := by kernel_rfl
theorem bothF2_sat (f0 : Fp → Fp × Int) (f1 : UInt64 → Fp) (f2 : Fp → Fp × Bool) (f3 : Fp → Fp → Fp) (f4 : Fp → Fp → Fp) (f5 : Fp → Fp → Fp) (a : Fp2) (n : Fp) : (bothF2_T f0 f1 f2 f3 f4 f5 a n).sat fun q => q = some (bothF2_G f0 f1 f2 f3 f4 f5 a n) := ⟨fun h0 => (show some _ = some _ from congrArg some (by unfold bothF2_G; rw [h0])), fun h0 => (show some _ = some _ from congrArg some (by unfold bothF2_G; rw [h0]))⟩
def bothF2 (a : Fp2) (n : Fp) : Fp2 := bothF2_G invF ofF sqrtF addF subF mulF a n
theorem bothF2_ok : CallOk Try.prog 75 (K2 (kRow Fp2).arg (kRow Fp).arg (kRow Fp2).rs.res bothF2) :=
  P2 (En_ok (.cons inv_ok (.cons of_ok (.cons sqrt_ok (.cons add_ok (.cons sub_ok (.cons mul_ok .nil))))))) Try.func75 (bodied Try.func75 (by kernel_rfl) (by kernel_rfl)) 300 (kRow Fp2) (kRow Fp) (kRow Fp2).rs bothF2 (bothF2_run invF ofF sqrtF addF subF mulF) (bothF2_sat invF ofF sqrtF addF subF mulF)
def sqrtF2_G (f0 : Fp → Fp2) (f1 : Fp2 → Fp) (f2 : Fp → Fp × Bool) (f3 : Fp2 → Fp → Fp2) (f4 : Fp2 → Fp2 → Fp2) (f5 : Fp2 → Bool) (f6 : Fp2 → Fp2) (a : Fp2) : Fp2 × Bool := (match (!(fpEq (a.c1) (zeroFp))) with | true => (match (!((f2 (f1 a)).snd)) with | true => ((zeroFp2, false)) | false => (match (!(fp2Eq (f4 (f3 a (f2 (f1 a)).fst) (f3 a (f2 (f1 a)).fst)) (a))) with | true => ((zeroFp2, false)) | false => (match (f5 (f3 a (f2 (f1 a)).fst)) with | true => ((f6 (f3 a (f2 (f1 a)).fst), true)) | false => ((f3 a (f2 (f1 a)).fst, true))))) | false => (match (!(fp2Eq (f4 (f0 a.c0) (f0 a.c0)) (a))) with | true => ((zeroFp2, false)) | false => (match (f5 (f0 a.c0)) with | true => ((f6 (f0 a.c0), true)) | false => ((f0 a.c0, true)))))
def sqrtF2_T (f0 : Fp → Fp2) (f1 : Fp2 → Fp) (f2 : Fp → Fp × Bool) (f3 : Fp2 → Fp → Fp2) (f4 : Fp2 → Fp2 → Fp2) (f5 : Fp2 → Bool) (f6 : Fp2 → Fp2) (a : Fp2) : Tree (Option (Fp2 × Bool)) :=
  (.br (!(fpEq (a.c1) (zeroFp)))
    (.br (!((f2 (f1 a)).snd))
      (.leaf (some ((zeroFp2, false))))
      (.br (!(fp2Eq (f4 (f3 a (f2 (f1 a)).fst) (f3 a (f2 (f1 a)).fst)) (a)))
        (.leaf (some ((zeroFp2, false))))
        (.br (f5 (f3 a (f2 (f1 a)).fst))
          (.leaf (some ((f6 (f3 a (f2 (f1 a)).fst), true))))
          (.leaf (some ((f3 a (f2 (f1 a)).fst, true)))))))
    (.br (!(fp2Eq (f4 (f0 a.c0) (f0 a.c0)) (a)))
      (.leaf (some ((zeroFp2, false))))
      (.br (f5 (f0 a.c0))
        (.leaf (some ((f6 (f0 a.c0), true))))
        (.leaf (some ((f0 a.c0, true)))))))
theorem sqrtF2_run (f0 : Fp → Fp2) (f1 : Fp2 → Fp) (f2 : Fp → Fp × Bool) (f3 : Fp2 → Fp → Fp2) (f4 : Fp2 → Fp2 → Fp2) (f5 : Fp2 → Bool) (f6 : Fp2 → Fp2) (a : Fp2) : plainRun (En [(72, K1 (kRow Fp).arg (kRow Fp2).rs.res f0), (74, K1 (kRow Fp2).arg (kRow Fp).rs.res f1), (73, Ksqrt f2), (75, K2 (kRow Fp2).arg (kRow Fp).arg (kRow Fp2).rs.res f3), (30, K2 (kRow Fp2).arg (kRow Fp2).arg (kRow Fp2).rs.res f4), (32, K1 (kRow Fp2).arg kBool.rs.res f5), (31, K1 (kRow Fp2).arg (kRow Fp2).rs.res f6)]) ((kRow Fp2).rs2 kBool) 300 Try.f29 [.one ((kRow Fp2).av a)] = sqrtF2_T f0 f1 f2 f3 f4 f5 f6 a := by kernel_rfl
theorem sqrtF2_sat (f0 : Fp → Fp2) (f1 : Fp2 → Fp) (f2 : Fp → Fp × Bool) (f3 : Fp2 → Fp → Fp2) (f4 : Fp2 → Fp2 → Fp2) (f5 : Fp2 → Bool) (f6 : Fp2 → Fp2) (a : Fp2) : (sqrtF2_T f0 f1 f2 f3 f4 f5 f6 a).sat fun q => q = some (sqrtF2_G f0 f1 f2 f3 f4 f5 f6 a) := ⟨fun h0 => ⟨fun h1 => (show some _ = some _ from congrArg some (by unfold sqrtF2_G; rw [h0, h1])), fun h1 => ⟨fun h2 => (show some _ = some _ from congrArg some (by unfold sqrtF2_G; rw [h0, h1, h2])), fun h2 => ⟨fun h3 => (show some _ = some _ from congrArg some (by unfold sqrtF2_G; rw [h0, h1, h2, h3])), fun h3 => (show some _ = some _ from congrArg some (by unfold sqrtF2_G; rw [h0, h1, h2, h3]))⟩⟩⟩, fun h0 => ⟨fun h1 => (show some _ = some _ from congrArg some (by unfold sqrtF2_G; rw [h0, h1])), fun h1 => ⟨fun h2 => (show some _ = some _ from congrArg some (by unfold sqrtF2_G; rw [h0, h1, h2])), fun h2 => (show some _ = some _ from congrArg some (by unfold sqrtF2_G; rw [h0, h1, h2]))⟩⟩⟩
def sqrtF2 (a : Fp2) : Fp2 × Bool := sqrtF2_G singleF2 normF2 sqrtF bothF2 mulF2 greatF2 negF2 a
theorem sqrtF2_ok : CallOk Try.prog 29 (K1 (kRow Fp2).arg ((kRow Fp2).rs2 kBool).res sqrtF2) :=
  P1 (En_ok (.cons singleF2_ok (.cons normF2_ok (.cons sqrt_ok (.cons bothF2_ok (.cons mulF2_ok (.cons greatF2_ok (.cons negF2_ok .nil)))))))) Try.func29 (bodied Try.func29 (by kernel_rfl) (by kernel_rfl)) 300 (kRow Fp2) ((kRow Fp2).rs2 kBool) sqrtF2 (sqrtF2_run singleF2 normF2 sqrtF bothF2 mulF2 greatF2 negF2) (sqrtF2_sat singleF2 normF2 sqrtF bothF2 mulF2 greatF2 negF2)

end Go.Proofs.Ytehhcpopfgieeaa
