/- Package g1: what has no slices. -/
import Derived.Test.YtchlamfdofpolaaQa
import Derived.Test.YtchlamfdofpolaaPd
set_option linter.unusedSimpArgs false
set_option linter.unusedVariables false
namespace Go.Proofs.Ytchlamfdofpolaa
open Go.RowKit

def oneG1_G  : Pg1 := ({ x := { l0 := UInt64.ofNat 18103045581585958587, l1 := UInt64.ofNat 7806400890582735599, l2 := UInt64.ofNat 11623291730934869080, l3 := UInt64.ofNat 14080658508445169925, l4 := UInt64.ofNat 2780237799254240271, l5 := UInt64.ofNat 1725392847304644500 }, y := { l0 := UInt64.ofNat 912580534683953121, l1 := UInt64.ofNat 15005087156090211044, l2 := UInt64.ofNat 61670280795567085, l3 := UInt64.ofNat 18227722000993880822, l4 := UInt64.ofNat 11573741888802228964, l5 := UInt64.ofNat 627113611842199793 }, inf := false })
def oneG1_T  : Tree (Option (Pg1)) :=
  (.leaf (some ({ x := { l0 := UInt64.ofNat 18103045581585958587, l1 := UInt64.ofNat 7806400890582735599, l2 := UInt64.ofNat 11623291730934869080, l3 := UInt64.ofNat 14080658508445169925, l4 := UInt64.ofNat 2780237799254240271, l5 := UInt64.ofNat 1725392847304644500 }, y := { l0 := UInt64.ofNat 912580534683953121, l1 := UInt64.ofNat 15005087156090211044, l2 := UInt64.ofNat 61670280795567085, l3 := UInt64.ofNat 18227722000993880822, l4 := UInt64.ofNat 11573741888802228964, l5 := UInt64.ofNat 627113611842199793 }, inf := false })))
theorem oneG1_run  : plainRun (En []) (kRow Pg1).rs 300 Try.f29 [] = oneG1_T  := by kernel_rfl
theorem oneG1_sat  : (oneG1_T ).sat fun q => q = some (oneG1_G ) := (show some _ = some _ from rfl)
def oneG1  : Pg1 := oneG1_G  
theorem oneG1_ok : CallOk Try.prog 29 (K0 (kRow Pg1).rs.res oneG1) :=
  P0 (En_ok .nil) Try.func29 (bodied Try.func29 (by kernel_rfl) (by kernel_rfl)) 300  (kRow Pg1).rs oneG1 (oneG1_run ) (oneG1_sat )
def rhsG1_G (f0 : Fp → Fp → Fp) (f1 : Fp → Fp → Fp) (x : Fp) : Fp := (f0 (f1 (f1 x x) x) { l0 := UInt64.ofNat 4, l1 := UInt64.ofNat 0, l2 := UInt64.ofNat 0, l3 := UInt64.ofNat 0, l4 := UInt64.ofNat 0, l5 := UInt64.ofNat 0 })
def rhsG1_T (f0 : Fp → Fp → Fp) (f1 : Fp → Fp → Fp) (x : Fp) : Tree (Option (Fp)) :=
  (.leaf (some (f0 (f1 (f1 x x) x) { l0 := UInt64.ofNat 4, l1 := UInt64.ofNat 0, l2 := UInt64.ofNat 0, l3 := UInt64.ofNat 0, l4 := UInt64.ofNat 0, l5 := UInt64.ofNat 0 })))
theorem rhsG1_run (f0 : Fp → Fp → Fp) (f1 : Fp → Fp → Fp) (x : Fp) : plainRun (En [(104, Kff f0), (66, Kff f1)]) (kRow Fp).rs 300 Try.f67 [.one ((kRow Fp).av x)] = rhsG1_T f0 f1 x := by kernel_rfl
theorem rhsG1_sat (f0 : Fp → Fp → Fp) (f1 : Fp → Fp → Fp) (x : Fp) : (rhsG1_T f0 f1 x).sat fun q => q = some (rhsG1_G f0 f1 x) := (show some _ = some _ from rfl)
def rhsG1 (x : Fp) : Fp := rhsG1_G addF mulF x
theorem rhsG1_ok : CallOk Try.prog 67 (K1 (kRow Fp).arg (kRow Fp).rs.res rhsG1) :=
  P1 (En_ok (.cons add_ok (.cons mul_ok .nil))) Try.func67 (bodied Try.func67 (by kernel_rfl) (by kernel_rfl)) 300 (kRow Fp) (kRow Fp).rs rhsG1 (rhsG1_run addF mulF) (rhsG1_sat addF mulF)
def onG1_G (f0 : Fp → Bool) (f1 : Fp → Fp → Fp) (f2 : Fp → Fp) (p : Pg1) : Bool := (match (p.inf) with | true => ((pg1Eq (p) (infG1))) | false => (match (f0 p.x) with | true => (match (f0 p.y) with | true => ((fpEq (f1 p.y p.y) (f2 p.x))) | false => ((false))) | false => ((false))))
def onG1_T (f0 : Fp → Bool) (f1 : Fp → Fp → Fp) (f2 : Fp → Fp) (p : Pg1) : Tree (Option (Bool)) :=
  (.br (p.inf)
    (.leaf (some ((pg1Eq (p) (infG1)))))
    (.br (f0 p.x)
      (.br (f0 p.y)
        (.leaf (some ((fpEq (f1 p.y p.y) (f2 p.x)))))
        (.leaf (some ((false)))))
      (.leaf (some ((false))))))
theorem onG1_run (f0 : Fp → Bool) (f1 : Fp → Fp → Fp) (f2 : Fp → Fp) (p : Pg1) : plainRun (En [(65, Kfb f0), (66, Kff f1), (67, K1 (kRow Fp).arg (kRow Fp).rs.res f2)]) kBool.rs 300 Try.f25 [.one ((kRow Pg1).av p)] = onG1_T f0 f1 f2 p := by kernel_rfl
theorem onG1_sat (f0 : Fp → Bool) (f1 : Fp → Fp → Fp) (f2 : Fp → Fp) (p : Pg1) : (onG1_T f0 f1 f2 p).sat fun q => q = some (onG1_G f0 f1 f2 p) := ⟨fun h0 => (show some _ = some _ from congrArg some (by unfold onG1_G; rw [h0])), fun h0 => ⟨fun h1 => ⟨fun h2 => (show some _ = some _ from congrArg some (by unfold onG1_G; rw [h0, h1, h2])), fun h2 => (show some _ = some _ from congrArg some (by unfold onG1_G; rw [h0, h1, h2]))⟩, fun h1 => (show some _ = some _ from congrArg some (by unfold onG1_G; rw [h0, h1]))⟩⟩
def onG1 (p : Pg1) : Bool := onG1_G mayF mulF rhsG1 p
theorem onG1_ok : CallOk Try.prog 25 (K1 (kRow Pg1).arg kBool.rs.res onG1) :=
  P1 (En_ok (.cons may_ok (.cons mul_ok (.cons rhsG1_ok .nil)))) Try.func25 (bodied Try.func25 (by kernel_rfl) (by kernel_rfl)) 300 (kRow Pg1) kBool.rs onG1 (onG1_run mayF mulF rhsG1) (onG1_sat mayF mulF rhsG1)
def liftG1_G (f0 : Fp → Fp) (p : Pg1) : Sp1 := (match (p.inf) with | true => (zeroSp) | false => ({ x := f0 p.x, y := f0 p.y, z := f0 oneFp }))
def liftG1_T (f0 : Fp → Fp) (p : Pg1) : Tree (Option (Sp1)) :=
  (.br (p.inf)
    (.leaf (some (zeroSp)))
    (.leaf (some ({ x := f0 p.x, y := f0 p.y, z := f0 oneFp }))))
theorem liftG1_run (f0 : Fp → Fp) (p : Pg1) : plainRun (En [(105, Kf f0)]) (kRow Sp1).rs 300 Try.f57 [.one ((kRow Pg1).av p)] = liftG1_T f0 p := by kernel_rfl
theorem liftG1_sat (f0 : Fp → Fp) (p : Pg1) : (liftG1_T f0 p).sat fun q => q = some (liftG1_G f0 p) := ⟨fun h0 => (show some _ = some _ from congrArg some (by unfold liftG1_G; rw [h0])), fun h0 => (show some _ = some _ from congrArg some (by unfold liftG1_G; rw [h0]))⟩
def liftG1 (p : Pg1) : Sp1 := liftG1_G wholeF p
theorem liftG1_ok : CallOk Try.prog 57 (K1 (kRow Pg1).arg (kRow Sp1).rs.res liftG1) :=
  P1 (En_ok (.cons whole_ok .nil)) Try.func57 (bodied Try.func57 (by kernel_rfl) (by kernel_rfl)) 300 (kRow Pg1) (kRow Sp1).rs liftG1 (liftG1_run wholeF) (liftG1_sat wholeF)
def zeroG1_G (a : Fp) : Bool := ((fpEq (a) (zeroFp)))
def zeroG1_T (a : Fp) : Tree (Option (Bool)) :=
  (.leaf (some ((fpEq (a) (zeroFp)))))
theorem zeroG1_run (a : Fp) : plainRun (En []) kBool.rs 300 Try.f73 [.one ((kRow Fp).av a)] = zeroG1_T a := by kernel_rfl
theorem zeroG1_sat (a : Fp) : (zeroG1_T a).sat fun q => q = some (zeroG1_G a) := (show some _ = some _ from rfl)
def zeroG1 (a : Fp) : Bool := zeroG1_G  a
theorem zeroG1_ok : CallOk Try.prog 73 (K1 (kRow Fp).arg kBool.rs.res zeroG1) :=
  P1 (En_ok .nil) Try.func73 (bodied Try.func73 (by kernel_rfl) (by kernel_rfl)) 300 (kRow Fp) kBool.rs zeroG1 (zeroG1_run ) (zeroG1_sat )
def laysG1_G (f0 : Fp → Fp × Int) (f1 : Fp → Fp) (f2 : Fp → Fp → Fp) (s : Sp1) : Pg1 := (match ((f0 (f1 s.z)).snd != 0) with | true => (infG1) | false => ({ x := f2 (f1 s.x) (f2 (f0 (f1 s.z)).fst (f0 (f1 s.z)).fst), y := f2 (f1 s.y) (f2 (f2 (f0 (f1 s.z)).fst (f0 (f1 s.z)).fst) (f0 (f1 s.z)).fst), inf := false }))
def laysG1_T (f0 : Fp → Fp × Int) (f1 : Fp → Fp) (f2 : Fp → Fp → Fp) (s : Sp1) : Tree (Option (Pg1)) :=
  (.br ((f0 (f1 s.z)).snd != 0)
    (.leaf (some (infG1)))
    (.leaf (some ({ x := f2 (f1 s.x) (f2 (f0 (f1 s.z)).fst (f0 (f1 s.z)).fst), y := f2 (f1 s.y) (f2 (f2 (f0 (f1 s.z)).fst (f0 (f1 s.z)).fst) (f0 (f1 s.z)).fst), inf := false }))))
theorem laysG1_run (f0 : Fp → Fp × Int) (f1 : Fp → Fp) (f2 : Fp → Fp → Fp) (s : Sp1) : plainRun (En [(100, Kinv f0), (101, Kf f1), (66, Kff f2)]) (kRow Pg1).rs 300 Try.f55 [.one ((kRow Sp1).av s)] = laysG1_T f0 f1 f2 s := by kernel_rfl
theorem laysG1_sat (f0 : Fp → Fp × Int) (f1 : Fp → Fp) (f2 : Fp → Fp → Fp) (s : Sp1) : (laysG1_T f0 f1 f2 s).sat fun q => q = some (laysG1_G f0 f1 f2 s) := ⟨fun h0 => (show some _ = some _ from congrArg some (by unfold laysG1_G; rw [h0])), fun h0 => (show some _ = some _ from congrArg some (by unfold laysG1_G; rw [h0]))⟩
def laysG1 (s : Sp1) : Pg1 := laysG1_G invF lowF mulF s
theorem laysG1_ok : CallOk Try.prog 55 (K1 (kRow Sp1).arg (kRow Pg1).rs.res laysG1) :=
  P1 (En_ok (.cons inv_ok (.cons low_ok (.cons mul_ok .nil)))) Try.func55 (bodied Try.func55 (by kernel_rfl) (by kernel_rfl)) 300 (kRow Sp1) (kRow Pg1).rs laysG1 (laysG1_run invF lowF mulF) (laysG1_sat invF lowF mulF)
def twiceG1_G (f0 : Fp → Fp → Fp) (f1 : Fp → Fp → Fp) (f2 : Fp → Fp → Fp) (s : Sp1) : Sp1 := ({ x := f2 (f0 (f1 (f1 (f0 s.x s.x) (f0 s.x s.x)) (f0 s.x s.x)) (f1 (f1 (f0 s.x s.x) (f0 s.x s.x)) (f0 s.x s.x))) (f1 (f1 (f1 (f0 s.x (f0 s.y s.y)) (f0 s.x (f0 s.y s.y))) (f1 (f0 s.x (f0 s.y s.y)) (f0 s.x (f0 s.y s.y)))) (f1 (f1 (f0 s.x (f0 s.y s.y)) (f0 s.x (f0 s.y s.y))) (f1 (f0 s.x (f0 s.y s.y)) (f0 s.x (f0 s.y s.y))))), y := f2 (f0 (f1 (f1 (f0 s.x s.x) (f0 s.x s.x)) (f0 s.x s.x)) (f2 (f1 (f1 (f0 s.x (f0 s.y s.y)) (f0 s.x (f0 s.y s.y))) (f1 (f0 s.x (f0 s.y s.y)) (f0 s.x (f0 s.y s.y)))) (f2 (f0 (f1 (f1 (f0 s.x s.x) (f0 s.x s.x)) (f0 s.x s.x)) (f1 (f1 (f0 s.x s.x) (f0 s.x s.x)) (f0 s.x s.x))) (f1 (f1 (f1 (f0 s.x (f0 s.y s.y)) (f0 s.x (f0 s.y s.y))) (f1 (f0 s.x (f0 s.y s.y)) (f0 s.x (f0 s.y s.y)))) (f1 (f1 (f0 s.x (f0 s.y s.y)) (f0 s.x (f0 s.y s.y))) (f1 (f0 s.x (f0 s.y s.y)) (f0 s.x (f0 s.y s.y)))))))) (f1 (f1 (f1 (f0 (f0 s.y s.y) (f0 s.y s.y)) (f0 (f0 s.y s.y) (f0 s.y s.y))) (f1 (f0 (f0 s.y s.y) (f0 s.y s.y)) (f0 (f0 s.y s.y) (f0 s.y s.y)))) (f1 (f1 (f0 (f0 s.y s.y) (f0 s.y s.y)) (f0 (f0 s.y s.y) (f0 s.y s.y))) (f1 (f0 (f0 s.y s.y) (f0 s.y s.y)) (f0 (f0 s.y s.y) (f0 s.y s.y))))), z := f1 (f0 s.y s.z) (f0 s.y s.z) })
def twiceG1_T (f0 : Fp → Fp → Fp) (f1 : Fp → Fp → Fp) (f2 : Fp → Fp → Fp) (s : Sp1) : Tree (Option (Sp1)) :=
  (.leaf (some ({ x := f2 (f0 (f1 (f1 (f0 s.x s.x) (f0 s.x s.x)) (f0 s.x s.x)) (f1 (f1 (f0 s.x s.x) (f0 s.x s.x)) (f0 s.x s.x))) (f1 (f1 (f1 (f0 s.x (f0 s.y s.y)) (f0 s.x (f0 s.y s.y))) (f1 (f0 s.x (f0 s.y s.y)) (f0 s.x (f0 s.y s.y)))) (f1 (f1 (f0 s.x (f0 s.y s.y)) (f0 s.x (f0 s.y s.y))) (f1 (f0 s.x (f0 s.y s.y)) (f0 s.x (f0 s.y s.y))))), y := f2 (f0 (f1 (f1 (f0 s.x s.x) (f0 s.x s.x)) (f0 s.x s.x)) (f2 (f1 (f1 (f0 s.x (f0 s.y s.y)) (f0 s.x (f0 s.y s.y))) (f1 (f0 s.x (f0 s.y s.y)) (f0 s.x (f0 s.y s.y)))) (f2 (f0 (f1 (f1 (f0 s.x s.x) (f0 s.x s.x)) (f0 s.x s.x)) (f1 (f1 (f0 s.x s.x) (f0 s.x s.x)) (f0 s.x s.x))) (f1 (f1 (f1 (f0 s.x (f0 s.y s.y)) (f0 s.x (f0 s.y s.y))) (f1 (f0 s.x (f0 s.y s.y)) (f0 s.x (f0 s.y s.y)))) (f1 (f1 (f0 s.x (f0 s.y s.y)) (f0 s.x (f0 s.y s.y))) (f1 (f0 s.x (f0 s.y s.y)) (f0 s.x (f0 s.y s.y)))))))) (f1 (f1 (f1 (f0 (f0 s.y s.y) (f0 s.y s.y)) (f0 (f0 s.y s.y) (f0 s.y s.y))) (f1 (f0 (f0 s.y s.y) (f0 s.y s.y)) (f0 (f0 s.y s.y) (f0 s.y s.y)))) (f1 (f1 (f0 (f0 s.y s.y) (f0 s.y s.y)) (f0 (f0 s.y s.y) (f0 s.y s.y))) (f1 (f0 (f0 s.y s.y) (f0 s.y s.y)) (f0 (f0 s.y s.y) (f0 s.y s.y))))), z := f1 (f0 s.y s.z) (f0 s.y s.z) })))
theorem twiceG1_run (f0 : Fp → Fp → Fp) (f1 : Fp → Fp → Fp) (f2 : Fp → Fp → Fp) (s : Sp1) : plainRun (En [(102, Kff f0), (104, Kff f1), (103, Kff f2)]) (kRow Sp1).rs 300 Try.f80 [.one ((kRow Sp1).av s)] = twiceG1_T f0 f1 f2 s := by kernel_rfl
theorem twiceG1_sat (f0 : Fp → Fp → Fp) (f1 : Fp → Fp → Fp) (f2 : Fp → Fp → Fp) (s : Sp1) : (twiceG1_T f0 f1 f2 s).sat fun q => q = some (twiceG1_G f0 f1 f2 s) := (show some _ = some _ from rfl)
def twiceG1 (s : Sp1) : Sp1 := twiceG1_G halfF addF subF s
theorem twiceG1_ok : CallOk Try.prog 80 (K1 (kRow Sp1).arg (kRow Sp1).rs.res twiceG1) :=
  P1 (En_ok (.cons half_ok (.cons add_ok (.cons sub_ok .nil)))) Try.func80 (bodied Try.func80 (by kernel_rfl) (by kernel_rfl)) 300 (kRow Sp1) (kRow Sp1).rs twiceG1 (twiceG1_run halfF addF subF) (twiceG1_sat halfF addF subF)
def plusG1_G (f0 : Fp → Bool) (f1 : Fp → Fp → Fp) (f2 : Fp → Fp → Fp) (f3 : Sp1 → Sp1) (f4 : Fp → Fp → Fp) (s : Sp1) (t : Sp1) : Sp1 := (match (f0 s.z) with | true => (t) | false => (match (f0 t.z) with | true => (s) | false => (match (f0 (f2 (f1 t.x (f1 s.z s.z)) (f1 s.x (f1 t.z t.z)))) with | true => (match (f0 (f2 (f1 t.y (f1 (f1 s.z s.z) s.z)) (f1 s.y (f1 (f1 t.z t.z) t.z)))) with | true => (f3 s) | false => (zeroSp)) | false => ({ x := f2 (f2 (f1 (f2 (f1 t.y (f1 (f1 s.z s.z) s.z)) (f1 s.y (f1 (f1 t.z t.z) t.z))) (f2 (f1 t.y (f1 (f1 s.z s.z) s.z)) (f1 s.y (f1 (f1 t.z t.z) t.z)))) (f1 (f1 (f2 (f1 t.x (f1 s.z s.z)) (f1 s.x (f1 t.z t.z))) (f2 (f1 t.x (f1 s.z s.z)) (f1 s.x (f1 t.z t.z)))) (f2 (f1 t.x (f1 s.z s.z)) (f1 s.x (f1 t.z t.z))))) (f4 (f1 (f1 s.x (f1 t.z t.z)) (f1 (f2 (f1 t.x (f1 s.z s.z)) (f1 s.x (f1 t.z t.z))) (f2 (f1 t.x (f1 s.z s.z)) (f1 s.x (f1 t.z t.z))))) (f1 (f1 s.x (f1 t.z t.z)) (f1 (f2 (f1 t.x (f1 s.z s.z)) (f1 s.x (f1 t.z t.z))) (f2 (f1 t.x (f1 s.z s.z)) (f1 s.x (f1 t.z t.z)))))), y := f2 (f1 (f2 (f1 t.y (f1 (f1 s.z s.z) s.z)) (f1 s.y (f1 (f1 t.z t.z) t.z))) (f2 (f1 (f1 s.x (f1 t.z t.z)) (f1 (f2 (f1 t.x (f1 s.z s.z)) (f1 s.x (f1 t.z t.z))) (f2 (f1 t.x (f1 s.z s.z)) (f1 s.x (f1 t.z t.z))))) (f2 (f2 (f1 (f2 (f1 t.y (f1 (f1 s.z s.z) s.z)) (f1 s.y (f1 (f1 t.z t.z) t.z))) (f2 (f1 t.y (f1 (f1 s.z s.z) s.z)) (f1 s.y (f1 (f1 t.z t.z) t.z)))) (f1 (f1 (f2 (f1 t.x (f1 s.z s.z)) (f1 s.x (f1 t.z t.z))) (f2 (f1 t.x (f1 s.z s.z)) (f1 s.x (f1 t.z t.z)))) (f2 (f1 t.x (f1 s.z s.z)) (f1 s.x (f1 t.z t.z))))) (f4 (f1 (f1 s.x (f1 t.z t.z)) (f1 (f2 (f1 t.x (f1 s.z s.z)) (f1 s.x (f1 t.z t.z))) (f2 (f1 t.x (f1 s.z s.z)) (f1 s.x (f1 t.z t.z))))) (f1 (f1 s.x (f1 t.z t.z)) (f1 (f2 (f1 t.x (f1 s.z s.z)) (f1 s.x (f1 t.z t.z))) (f2 (f1 t.x (f1 s.z s.z)) (f1 s.x (f1 t.z t.z))))))))) (f1 (f1 s.y (f1 (f1 t.z t.z) t.z)) (f1 (f1 (f2 (f1 t.x (f1 s.z s.z)) (f1 s.x (f1 t.z t.z))) (f2 (f1 t.x (f1 s.z s.z)) (f1 s.x (f1 t.z t.z)))) (f2 (f1 t.x (f1 s.z s.z)) (f1 s.x (f1 t.z t.z))))), z := f1 (f1 s.z t.z) (f2 (f1 t.x (f1 s.z s.z)) (f1 s.x (f1 t.z t.z))) }))))
def plusG1_T (f0 : Fp → Bool) (f1 : Fp → Fp → Fp) (f2 : Fp → Fp → Fp) (f3 : Sp1 → Sp1) (f4 : Fp → Fp → Fp) (s : Sp1) (t : Sp1) : Tree (Option (Sp1)) :=
  (.br (f0 s.z)
    (.leaf (some (t)))
    (.br (f0 t.z)
      (.leaf (some (s)))
      (.br (f0 (f2 (f1 t.x (f1 s.z s.z)) (f1 s.x (f1 t.z t.z))))
        (.br (f0 (f2 (f1 t.y (f1 (f1 s.z s.z) s.z)) (f1 s.y (f1 (f1 t.z t.z) t.z))))
          (.leaf (some (f3 s)))
          (.br (f0 (f2 (f1 t.x (f1 s.z s.z)) (f1 s.x (f1 t.z t.z))))
            (.leaf (some (zeroSp)))
            (.leaf (some ({ x := f2 (f2 (f1 (f2 (f1 t.y (f1 (f1 s.z s.z) s.z)) (f1 s.y (f1 (f1 t.z t.z) t.z))) (f2 (f1 t.y (f1 (f1 s.z s.z) s.z)) (f1 s.y (f1 (f1 t.z t.z) t.z)))) (f1 (f1 (f2 (f1 t.x (f1 s.z s.z)) (f1 s.x (f1 t.z t.z))) (f2 (f1 t.x (f1 s.z s.z)) (f1 s.x (f1 t.z t.z)))) (f2 (f1 t.x (f1 s.z s.z)) (f1 s.x (f1 t.z t.z))))) (f4 (f1 (f1 s.x (f1 t.z t.z)) (f1 (f2 (f1 t.x (f1 s.z s.z)) (f1 s.x (f1 t.z t.z))) (f2 (f1 t.x (f1 s.z s.z)) (f1 s.x (f1 t.z t.z))))) (f1 (f1 s.x (f1 t.z t.z)) (f1 (f2 (f1 t.x (f1 s.z s.z)) (f1 s.x (f1 t.z t.z))) (f2 (f1 t.x (f1 s.z s.z)) (f1 s.x (f1 t.z t.z)))))), y := f2 (f1 (f2 (f1 t.y (f1 (f1 s.z s.z) s.z)) (f1 s.y (f1 (f1 t.z t.z) t.z))) (f2 (f1 (f1 s.x (f1 t.z t.z)) (f1 (f2 (f1 t.x (f1 s.z s.z)) (f1 s.x (f1 t.z t.z))) (f2 (f1 t.x (f1 s.z s.z)) (f1 s.x (f1 t.z t.z))))) (f2 (f2 (f1 (f2 (f1 t.y (f1 (f1 s.z s.z) s.z)) (f1 s.y (f1 (f1 t.z t.z) t.z))) (f2 (f1 t.y (f1 (f1 s.z s.z) s.z)) (f1 s.y (f1 (f1 t.z t.z) t.z)))) (f1 (f1 (f2 (f1 t.x (f1 s.z s.z)) (f1 s.x (f1 t.z t.z))) (f2 (f1 t.x (f1 s.z s.z)) (f1 s.x (f1 t.z t.z)))) (f2 (f1 t.x (f1 s.z s.z)) (f1 s.x (f1 t.z t.z))))) (f4 (f1 (f1 s.x (f1 t.z t.z)) (f1 (f2 (f1 t.x (f1 s.z s.z)) (f1 s.x (f1 t.z t.z))) (f2 (f1 t.x (f1 s.z s.z)) (f1 s.x (f1 t.z t.z))))) (f1 (f1 s.x (f1 t.z t.z)) (f1 (f2 (f1 t.x (f1 s.z s.z)) (f1 s.x (f1 t.z t.z))) (f2 (f1 t.x (f1 s.z s.z)) (f1 s.x (f1 t.z t.z))))))))) (f1 (f1 s.y (f1 (f1 t.z t.z) t.z)) (f1 (f1 (f2 (f1 t.x (f1 s.z s.z)) (f1 s.x (f1 t.z t.z))) (f2 (f1 t.x (f1 s.z s.z)) (f1 s.x (f1 t.z t.z)))) (f2 (f1 t.x (f1 s.z s.z)) (f1 s.x (f1 t.z t.z))))), z := f1 (f1 s.z t.z) (f2 (f1 t.x (f1 s.z s.z)) (f1 s.x (f1 t.z t.z))) })))))
        (.br (f0 (f2 (f1 t.x (f1 s.z s.z)) (f1 s.x (f1 t.z t.z))))
          (.leaf (some (zeroSp)))
          (.leaf (some ({ x := f2 (f2 (f1 (f2 (f1 t.y (f1 (f1 s.z s.z) s.z)) (f1 s.y (f1 (f1 t.z t.z) t.z))) (f2 (f1 t.y (f1 (f1 s.z s.z) s.z)) (f1 s.y (f1 (f1 t.z t.z) t.z)))) (f1 (f1 (f2 (f1 t.x (f1 s.z s.z)) (f1 s.x (f1 t.z t.z))) (f2 (f1 t.x (f1 s.z s.z)) (f1 s.x (f1 t.z t.z)))) (f2 (f1 t.x (f1 s.z s.z)) (f1 s.x (f1 t.z t.z))))) (f4 (f1 (f1 s.x (f1 t.z t.z)) (f1 (f2 (f1 t.x (f1 s.z s.z)) (f1 s.x (f1 t.z t.z))) (f2 (f1 t.x (f1 s.z s.z)) (f1 s.x (f1 t.z t.z))))) (f1 (f1 s.x (f1 t.z t.z)) (f1 (f2 (f1 t.x (f1 s.z s.z)) (f1 s.x (f1 t.z t.z))) (f2 (f1 t.x (f1 s.z s.z)) (f1 s.x (f1 t.z t.z)))))), y := f2 (f1 (f2 (f1 t.y (f1 (f1 s.z s.z) s.z)) (f1 s.y (f1 (f1 t.z t.z) t.z))) (f2 (f1 (f1 s.x (f1 t.z t.z)) (f1 (f2 (f1 t.x (f1 s.z s.z)) (f1 s.x (f1 t.z t.z))) (f2 (f1 t.x (f1 s.z s.z)) (f1 s.x (f1 t.z t.z))))) (f2 (f2 (f1 (f2 (f1 t.y (f1 (f1 s.z s.z) s.z)) (f1 s.y (f1 (f1 t.z t.z) t.z))) (f2 (f1 t.y (f1 (f1 s.z s.z) s.z)) (f1 s.y (f1 (f1 t.z t.z) t.z)))) (f1 (f1 (f2 (f1 t.x (f1 s.z s.z)) (f1 s.x (f1 t.z t.z))) (f2 (f1 t.x (f1 s.z s.z)) (f1 s.x (f1 t.z t.z)))) (f2 (f1 t.x (f1 s.z s.z)) (f1 s.x (f1 t.z t.z))))) (f4 (f1 (f1 s.x (f1 t.z t.z)) (f1 (f2 (f1 t.x (f1 s.z s.z)) (f1 s.x (f1 t.z t.z))) (f2 (f1 t.x (f1 s.z s.z)) (f1 s.x (f1 t.z t.z))))) (f1 (f1 s.x (f1 t.z t.z)) (f1 (f2 (f1 t.x (f1 s.z s.z)) (f1 s.x (f1 t.z t.z))) (f2 (f1 t.x (f1 s.z s.z)) (f1 s.x (f1 t.z t.z))))))))) (f1 (f1 s.y (f1 (f1 t.z t.z) t.z)) (f1 (f1 (f2 (f1 t.x (f1 s.z s.z)) (f1 s.x (f1 t.z t.z))) (f2 (f1 t.x (f1 s.z s.z)) (f1 s.x (f1 t.z t.z)))) (f2 (f1 t.x (f1 s.z s.z)) (f1 s.x (f1 t.z t.z))))), z := f1 (f1 s.z t.z) (f2 (f1 t.x (f1 s.z s.z)) (f1 s.x (f1 t.z t.z))) })))))))
theorem plusG1_run (f0 : Fp → Bool) (f1 : Fp → Fp → Fp) (f2 : Fp → Fp → Fp) (f3 : Sp1 → Sp1) (f4 : Fp → Fp → Fp) (s : Sp1) (t : Sp1) : plainRun (En [(73, K1 (kRow Fp).arg kBool.rs.res f0), (102, Kff f1), (103, Kff f2), (80, K1 (kRow Sp1).arg (kRow Sp1).rs.res f3), (104, Kff f4)]) (kRow Sp1).rs 300 Try.f56 [.one ((kRow Sp1).av s), .one ((kRow Sp1).av t)] = plusG1_T f0 f1 f2 f3 f4 s t := by kernel_rfl
theorem plusG1_sat (f0 : Fp → Bool) (f1 : Fp → Fp → Fp) (f2 : Fp → Fp → Fp) (f3 : Sp1 → Sp1) (f4 : Fp → Fp → Fp) (s : Sp1) (t : Sp1) : (plusG1_T f0 f1 f2 f3 f4 s t).sat fun q => q = some (plusG1_G f0 f1 f2 f3 f4 s t) := ⟨fun h0 => (show some _ = some _ from congrArg some (by unfold plusG1_G; rw [h0])), fun h0 => ⟨fun h1 => (show some _ = some _ from congrArg some (by unfold plusG1_G; rw [h0, h1])), fun h1 => ⟨fun h2 => ⟨fun h3 => (show some _ = some _ from congrArg some (by unfold plusG1_G; rw [h0, h1, h2, h3])), fun h3 => ⟨fun _ => (show some _ = some _ from congrArg some (by unfold plusG1_G; rw [h0, h1, h2, h3])), fun h4 => absurd (h2.symm.trans h4) (by decide)⟩⟩, fun h2 => ⟨fun h3 => absurd (h2.symm.trans h3) (by decide), fun _ => (show some _ = some _ from congrArg some (by unfold plusG1_G; rw [h0, h1, h2]))⟩⟩⟩⟩
def plusG1 (s : Sp1) (t : Sp1) : Sp1 := plusG1_G zeroG1 halfF subF twiceG1 addF s t
theorem plusG1_ok : CallOk Try.prog 56 (K2 (kRow Sp1).arg (kRow Sp1).arg (kRow Sp1).rs.res plusG1) :=
  P2 (En_ok (.cons zeroG1_ok (.cons half_ok (.cons sub_ok (.cons twiceG1_ok (.cons add_ok .nil)))))) Try.func56 (bodied Try.func56 (by kernel_rfl) (by kernel_rfl)) 300 (kRow Sp1) (kRow Sp1) (kRow Sp1).rs plusG1 (plusG1_run zeroG1 halfF subF twiceG1 addF) (plusG1_sat zeroG1 halfF subF twiceG1 addF)
def addG1_G (f0 : Sp1 → Pg1) (f1 : Sp1 → Sp1 → Sp1) (f2 : Pg1 → Sp1) (a : Pg1) (b : Pg1) : Pg1 := (f0 (f1 (f2 a) (f2 b)))
def addG1_T (f0 : Sp1 → Pg1) (f1 : Sp1 → Sp1 → Sp1) (f2 : Pg1 → Sp1) (a : Pg1) (b : Pg1) : Tree (Option (Pg1)) :=
  (.leaf (some (f0 (f1 (f2 a) (f2 b)))))
theorem addG1_run (f0 : Sp1 → Pg1) (f1 : Sp1 → Sp1 → Sp1) (f2 : Pg1 → Sp1) (a : Pg1) (b : Pg1) : plainRun (En [(55, K1 (kRow Sp1).arg (kRow Pg1).rs.res f0), (56, K2 (kRow Sp1).arg (kRow Sp1).arg (kRow Sp1).rs.res f1), (57, K1 (kRow Pg1).arg (kRow Sp1).rs.res f2)]) (kRow Pg1).rs 300 Try.f18 [.one ((kRow Pg1).av a), .one ((kRow Pg1).av b)] = addG1_T f0 f1 f2 a b := by kernel_rfl
theorem addG1_sat (f0 : Sp1 → Pg1) (f1 : Sp1 → Sp1 → Sp1) (f2 : Pg1 → Sp1) (a : Pg1) (b : Pg1) : (addG1_T f0 f1 f2 a b).sat fun q => q = some (addG1_G f0 f1 f2 a b) := (show some _ = some _ from rfl)
def addG1 (a : Pg1) (b : Pg1) : Pg1 := addG1_G laysG1 plusG1 liftG1 a b
theorem addG1_ok : CallOk Try.prog 18 (K2 (kRow Pg1).arg (kRow Pg1).arg (kRow Pg1).rs.res addG1) :=
  P2 (En_ok (.cons laysG1_ok (.cons plusG1_ok (.cons liftG1_ok .nil)))) Try.func18 (bodied Try.func18 (by kernel_rfl) (by kernel_rfl)) 300 (kRow Pg1) (kRow Pg1) (kRow Pg1).rs addG1 (addG1_run laysG1 plusG1 liftG1) (addG1_sat laysG1 plusG1 liftG1)
def negG1_G (f0 : Fp → Fp) (p : Pg1) : Pg1 := (match (p.inf) with | true => (p) | false => ({ x := p.x, y := f0 p.y, inf := false }))
def negG1_T (f0 : Fp → Fp) (p : Pg1) : Tree (Option (Pg1)) :=
  (.br (p.inf)
    (.leaf (some (p)))
    (.leaf (some ({ x := p.x, y := f0 p.y, inf := false }))))
theorem negG1_run (f0 : Fp → Fp) (p : Pg1) : plainRun (En [(61, Kf f0)]) (kRow Pg1).rs 300 Try.f20 [.one ((kRow Pg1).av p)] = negG1_T f0 p := by kernel_rfl
theorem negG1_sat (f0 : Fp → Fp) (p : Pg1) : (negG1_T f0 p).sat fun q => q = some (negG1_G f0 p) := ⟨fun h0 => (show some _ = some _ from congrArg some (by unfold negG1_G; rw [h0])), fun h0 => (show some _ = some _ from congrArg some (by unfold negG1_G; rw [h0]))⟩
def negG1 (p : Pg1) : Pg1 := negG1_G negF p
theorem negG1_ok : CallOk Try.prog 20 (K1 (kRow Pg1).arg (kRow Pg1).rs.res negG1) :=
  P1 (En_ok (.cons neg_ok .nil)) Try.func20 (bodied Try.func20 (by kernel_rfl) (by kernel_rfl)) 300 (kRow Pg1) (kRow Pg1).rs negG1 (negG1_run negF) (negG1_sat negF)
def eqG1_G (a : Pg1) (b : Pg1) : Bool := ((pg1Eq (a) (b)))
def eqG1_T (a : Pg1) (b : Pg1) : Tree (Option (Bool)) :=
  (.leaf (some ((pg1Eq (a) (b)))))
theorem eqG1_run (a : Pg1) (b : Pg1) : plainRun (En []) kBool.rs 300 Try.f24 [.one ((kRow Pg1).av a), .one ((kRow Pg1).av b)] = eqG1_T a b := by kernel_rfl
theorem eqG1_sat (a : Pg1) (b : Pg1) : (eqG1_T a b).sat fun q => q = some (eqG1_G a b) := (show some _ = some _ from rfl)
def eqG1 (a : Pg1) (b : Pg1) : Bool := eqG1_G  a b
theorem eqG1_ok : CallOk Try.prog 24 (K2 (kRow Pg1).arg (kRow Pg1).arg kBool.rs.res eqG1) :=
  P2 (En_ok .nil) Try.func24 (bodied Try.func24 (by kernel_rfl) (by kernel_rfl)) 300 (kRow Pg1) (kRow Pg1) kBool.rs eqG1 (eqG1_run ) (eqG1_sat )

end Go.Proofs.Ytchlamfdofpolaa
