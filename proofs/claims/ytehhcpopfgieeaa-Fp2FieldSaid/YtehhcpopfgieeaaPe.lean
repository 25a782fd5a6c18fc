/- Package fp6, and the document's threes. -/
import Derived.Test.YtehhcpopfgieeaaPd
import Derived.Test.YtehhcpopfgieeaaEF
set_option linter.unusedSimpArgs false
set_option linter.unusedVariables false
namespace Go.Proofs.Ytehhcpopfgieeaa
open Go.RowKit

def mayF6_G (f0 : Fp2 → Bool) (a : Fp6) : Bool := (match (f0 a.c0) with | true => (match (f0 a.c1) with | true => ((f0 a.c2)) | false => ((false))) | false => ((false)))
def mayF6_T (f0 : Fp2 → Bool) (a : Fp6) : Tree (Option (Bool)) :=
  (.br (f0 a.c0)
    (.br (f0 a.c1)
      (.leaf (some ((f0 a.c2))))
      (.leaf (some ((false)))))
    (.leaf (some ((false)))))
theorem mayF6_run (f0 : Fp2 → Bool) (a : Fp6) : plainRun (En [(33, K1 (kRow Fp2).arg kBool.rs.res f0)]) kBool.rs 300 Try.f18 [.one ((kRow Fp6).av a)] = mayF6_T f0 a := by kernel_rfl
theorem mayF6_sat (f0 : Fp2 → Bool) (a : Fp6) : (mayF6_T f0 a).sat fun q => q = some (mayF6_G f0 a) := ⟨fun h0 => ⟨fun h1 => (show some _ = some _ from congrArg some (by unfold mayF6_G; rw [h0, h1])), fun h1 => (show some _ = some _ from congrArg some (by unfold mayF6_G; rw [h0, h1]))⟩, fun h0 => (show some _ = some _ from congrArg some (by unfold mayF6_G; rw [h0]))⟩
def mayF6 (a : Fp6) : Bool := mayF6_G mayF2 a
theorem mayF6_ok : CallOk Try.prog 18 (K1 (kRow Fp6).arg kBool.rs.res mayF6) :=
  P1 (En_ok (.cons mayF2_ok .nil)) Try.func18 (bodied Try.func18 (by kernel_rfl) (by kernel_rfl)) 300 (kRow Fp6) kBool.rs mayF6 (mayF6_run mayF2) (mayF6_sat mayF2)
def with6a_G (f0 : Fp2 → Fp2 → Fp2) (a : Fp6) (b : Fp6) (f : Unit) : Fp6 := ({ c0 := f0 a.c0 b.c0, c1 := f0 a.c1 b.c1, c2 := f0 a.c2 b.c2 })
def with6a_T (f0 : Fp2 → Fp2 → Fp2) (a : Fp6) (b : Fp6) (f : Unit) : Tree (Option (Fp6)) :=
  (.leaf (some ({ c0 := f0 a.c0 b.c0, c1 := f0 a.c1 b.c1, c2 := f0 a.c2 b.c2 })))
theorem with6a_run (f0 : Fp2 → Fp2 → Fp2) (a : Fp6) (b : Fp6) (f : Unit) : plainRun (En [(36, K2 (kRow Fp2).arg (kRow Fp2).arg (kRow Fp2).rs.res f0)]) (kRow Fp6).rs 300 Try.f69 [.one ((kRow Fp6).av a), .one ((kRow Fp6).av b), .one ((kFn 36).av f)] = with6a_T f0 a b f := by kernel_rfl
theorem with6a_sat (f0 : Fp2 → Fp2 → Fp2) (a : Fp6) (b : Fp6) (f : Unit) : (with6a_T f0 a b f).sat fun q => q = some (with6a_G f0 a b f) := (show some _ = some _ from rfl)
def with6a (a : Fp6) (b : Fp6) (f : Unit) : Fp6 := with6a_G addF2 a b f
theorem with6a_ok : CallOk Try.prog 69 (K3 (kRow Fp6).arg (kRow Fp6).arg (kFn 36).arg (kRow Fp6).rs.res with6a) :=
  P3 (En_ok (.cons addF2_ok .nil)) Try.func69 (bodied Try.func69 (by kernel_rfl) (by kernel_rfl)) 300 (kRow Fp6) (kRow Fp6) (kFn 36) (kRow Fp6).rs with6a (with6a_run addF2) (with6a_sat addF2)
def with6s_G (f0 : Fp2 → Fp2 → Fp2) (a : Fp6) (b : Fp6) (f : Unit) : Fp6 := ({ c0 := f0 a.c0 b.c0, c1 := f0 a.c1 b.c1, c2 := f0 a.c2 b.c2 })
def with6s_T (f0 : Fp2 → Fp2 → Fp2) (a : Fp6) (b : Fp6) (f : Unit) : Tree (Option (Fp6)) :=
  (.leaf (some ({ c0 := f0 a.c0 b.c0, c1 := f0 a.c1 b.c1, c2 := f0 a.c2 b.c2 })))
theorem with6s_run (f0 : Fp2 → Fp2 → Fp2) (a : Fp6) (b : Fp6) (f : Unit) : plainRun (En [(38, K2 (kRow Fp2).arg (kRow Fp2).arg (kRow Fp2).rs.res f0)]) (kRow Fp6).rs 300 Try.f69 [.one ((kRow Fp6).av a), .one ((kRow Fp6).av b), .one ((kFn 38).av f)] = with6s_T f0 a b f := by kernel_rfl
theorem with6s_sat (f0 : Fp2 → Fp2 → Fp2) (a : Fp6) (b : Fp6) (f : Unit) : (with6s_T f0 a b f).sat fun q => q = some (with6s_G f0 a b f) := (show some _ = some _ from rfl)
def with6s (a : Fp6) (b : Fp6) (f : Unit) : Fp6 := with6s_G subF2 a b f
theorem with6s_ok : CallOk Try.prog 69 (K3 (kRow Fp6).arg (kRow Fp6).arg (kFn 38).arg (kRow Fp6).rs.res with6s) :=
  P3 (En_ok (.cons subF2_ok .nil)) Try.func69 (bodied Try.func69 (by kernel_rfl) (by kernel_rfl)) 300 (kRow Fp6) (kRow Fp6) (kFn 38) (kRow Fp6).rs with6s (with6s_run subF2) (with6s_sat subF2)
def addF6_G (f0 : Fp6 → Fp6 → Unit → Fp6) (a : Fp6) (b : Fp6) : Fp6 := (f0 a b ())
def addF6_T (f0 : Fp6 → Fp6 → Unit → Fp6) (a : Fp6) (b : Fp6) : Tree (Option (Fp6)) :=
  (.leaf (some (f0 a b ())))
theorem addF6_run (f0 : Fp6 → Fp6 → Unit → Fp6) (a : Fp6) (b : Fp6) : plainRun (En [(69, K3 (kRow Fp6).arg (kRow Fp6).arg (kFn 36).arg (kRow Fp6).rs.res f0)]) (kRow Fp6).rs 300 Try.f16 [.one ((kRow Fp6).av a), .one ((kRow Fp6).av b)] = addF6_T f0 a b := by kernel_rfl
theorem addF6_sat (f0 : Fp6 → Fp6 → Unit → Fp6) (a : Fp6) (b : Fp6) : (addF6_T f0 a b).sat fun q => q = some (addF6_G f0 a b) := (show some _ = some _ from rfl)
def addF6 (a : Fp6) (b : Fp6) : Fp6 := addF6_G with6a a b
theorem addF6_ok : CallOk Try.prog 16 (K2 (kRow Fp6).arg (kRow Fp6).arg (kRow Fp6).rs.res addF6) :=
  P2 (En_ok (.cons with6a_ok .nil)) Try.func16 (bodied Try.func16 (by kernel_rfl) (by kernel_rfl)) 300 (kRow Fp6) (kRow Fp6) (kRow Fp6).rs addF6 (addF6_run with6a) (addF6_sat with6a)
def subF6_G (f0 : Fp6 → Fp6 → Unit → Fp6) (a : Fp6) (b : Fp6) : Fp6 := (f0 a b ())
def subF6_T (f0 : Fp6 → Fp6 → Unit → Fp6) (a : Fp6) (b : Fp6) : Tree (Option (Fp6)) :=
  (.leaf (some (f0 a b ())))
theorem subF6_run (f0 : Fp6 → Fp6 → Unit → Fp6) (a : Fp6) (b : Fp6) : plainRun (En [(69, K3 (kRow Fp6).arg (kRow Fp6).arg (kFn 38).arg (kRow Fp6).rs.res f0)]) (kRow Fp6).rs 300 Try.f21 [.one ((kRow Fp6).av a), .one ((kRow Fp6).av b)] = subF6_T f0 a b := by kernel_rfl
theorem subF6_sat (f0 : Fp6 → Fp6 → Unit → Fp6) (a : Fp6) (b : Fp6) : (subF6_T f0 a b).sat fun q => q = some (subF6_G f0 a b) := (show some _ = some _ from rfl)
def subF6 (a : Fp6) (b : Fp6) : Fp6 := subF6_G with6s a b
theorem subF6_ok : CallOk Try.prog 21 (K2 (kRow Fp6).arg (kRow Fp6).arg (kRow Fp6).rs.res subF6) :=
  P2 (En_ok (.cons with6s_ok .nil)) Try.func21 (bodied Try.func21 (by kernel_rfl) (by kernel_rfl)) 300 (kRow Fp6) (kRow Fp6) (kRow Fp6).rs subF6 (subF6_run with6s) (subF6_sat with6s)
def negF6_G (f0 : Fp6 → Fp6 → Fp6) (a : Fp6) : Fp6 := (f0 zeroFp6 a)
def negF6_T (f0 : Fp6 → Fp6 → Fp6) (a : Fp6) : Tree (Option (Fp6)) :=
  (.leaf (some (f0 zeroFp6 a)))
theorem negF6_run (f0 : Fp6 → Fp6 → Fp6) (a : Fp6) : plainRun (En [(21, K2 (kRow Fp6).arg (kRow Fp6).arg (kRow Fp6).rs.res f0)]) (kRow Fp6).rs 300 Try.f23 [.one ((kRow Fp6).av a)] = negF6_T f0 a := by kernel_rfl
theorem negF6_sat (f0 : Fp6 → Fp6 → Fp6) (a : Fp6) : (negF6_T f0 a).sat fun q => q = some (negF6_G f0 a) := (show some _ = some _ from rfl)
def negF6 (a : Fp6) : Fp6 := negF6_G subF6 a
theorem negF6_ok : CallOk Try.prog 23 (K1 (kRow Fp6).arg (kRow Fp6).rs.res negF6) :=
  P1 (En_ok (.cons subF6_ok .nil)) Try.func23 (bodied Try.func23 (by kernel_rfl) (by kernel_rfl)) 300 (kRow Fp6) (kRow Fp6).rs negF6 (negF6_run subF6) (negF6_sat subF6)
def upF6_G (f0 : Fp2 → Fp2) (a : Fp6) : Fp6 := ({ c0 := f0 a.c2, c1 := a.c0, c2 := a.c1 })
def upF6_T (f0 : Fp2 → Fp2) (a : Fp6) : Tree (Option (Fp6)) :=
  (.leaf (some ({ c0 := f0 a.c2, c1 := a.c0, c2 := a.c1 })))
theorem upF6_run (f0 : Fp2 → Fp2) (a : Fp6) : plainRun (En [(66, K1 (kRow Fp2).arg (kRow Fp2).rs.res f0)]) (kRow Fp6).rs 300 Try.f17 [.one ((kRow Fp6).av a)] = upF6_T f0 a := by kernel_rfl
theorem upF6_sat (f0 : Fp2 → Fp2) (a : Fp6) : (upF6_T f0 a).sat fun q => q = some (upF6_G f0 a) := (show some _ = some _ from rfl)
def upF6 (a : Fp6) : Fp6 := upF6_G upF2 a
theorem upF6_ok : CallOk Try.prog 17 (K1 (kRow Fp6).arg (kRow Fp6).rs.res upF6) :=
  P1 (En_ok (.cons upF2_ok .nil)) Try.func17 (bodied Try.func17 (by kernel_rfl) (by kernel_rfl)) 300 (kRow Fp6) (kRow Fp6).rs upF6 (upF6_run upF2) (upF6_sat upF2)
def wholeF6_G (f0 : Fp2 → Fp2) (a : Fp6) : Fp6 := ({ c0 := f0 a.c0, c1 := f0 a.c1, c2 := f0 a.c2 })
def wholeF6_T (f0 : Fp2 → Fp2) (a : Fp6) : Tree (Option (Fp6)) :=
  (.leaf (some ({ c0 := f0 a.c0, c1 := f0 a.c1, c2 := f0 a.c2 })))
theorem wholeF6_run (f0 : Fp2 → Fp2) (a : Fp6) : plainRun (En [(76, K1 (kRow Fp2).arg (kRow Fp2).rs.res f0)]) (kRow Fp6).rs 300 Try.f67 [.one ((kRow Fp6).av a)] = wholeF6_T f0 a := by kernel_rfl
theorem wholeF6_sat (f0 : Fp2 → Fp2) (a : Fp6) : (wholeF6_T f0 a).sat fun q => q = some (wholeF6_G f0 a) := (show some _ = some _ from rfl)
def wholeF6 (a : Fp6) : Fp6 := wholeF6_G wholeF2 a
theorem wholeF6_ok : CallOk Try.prog 67 (K1 (kRow Fp6).arg (kRow Fp6).rs.res wholeF6) :=
  P1 (En_ok (.cons wholeF2_ok .nil)) Try.func67 (bodied Try.func67 (by kernel_rfl) (by kernel_rfl)) 300 (kRow Fp6) (kRow Fp6).rs wholeF6 (wholeF6_run wholeF2) (wholeF6_sat wholeF2)
def lowF6_G (f0 : Fp2 → Fp2) (a : Fp6) : Fp6 := ({ c0 := f0 a.c0, c1 := f0 a.c1, c2 := f0 a.c2 })
def lowF6_T (f0 : Fp2 → Fp2) (a : Fp6) : Tree (Option (Fp6)) :=
  (.leaf (some ({ c0 := f0 a.c0, c1 := f0 a.c1, c2 := f0 a.c2 })))
theorem lowF6_run (f0 : Fp2 → Fp2) (a : Fp6) : plainRun (En [(101, K1 (kRow Fp2).arg (kRow Fp2).rs.res f0)]) (kRow Fp6).rs 300 Try.f124 [.one ((kRow Fp6).av a)] = lowF6_T f0 a := by kernel_rfl
theorem lowF6_sat (f0 : Fp2 → Fp2) (a : Fp6) : (lowF6_T f0 a).sat fun q => q = some (lowF6_G f0 a) := (show some _ = some _ from rfl)
def lowF6 (a : Fp6) : Fp6 := lowF6_G lowF2 a
theorem lowF6_ok : CallOk Try.prog 124 (K1 (kRow Fp6).arg (kRow Fp6).rs.res lowF6) :=
  P1 (En_ok (.cons lowF2_ok .nil)) Try.func124 (bodied Try.func124 (by kernel_rfl) (by kernel_rfl)) 300 (kRow Fp6) (kRow Fp6).rs lowF6 (lowF6_run lowF2) (lowF6_sat lowF2)
def cross01_G (f0 : Fp2 → Fp2 → Fp2) (f1 : Fp2 → Fp2 → Fp2) (f2 : Fp2 → Fp2 → Fp2) (a : Fp6) (b : Fp6) (i : Unit) (j : Unit) (x : Fp2) (y : Fp2) : Fp2 := (f2 (f0 (f1 a.c0 a.c1) (f1 b.c0 b.c1)) (f1 x y))
def cross01_T (f0 : Fp2 → Fp2 → Fp2) (f1 : Fp2 → Fp2 → Fp2) (f2 : Fp2 → Fp2 → Fp2) (a : Fp6) (b : Fp6) (i : Unit) (j : Unit) (x : Fp2) (y : Fp2) : Tree (Option (Fp2)) :=
  (.leaf (some (f2 (f0 (f1 a.c0 a.c1) (f1 b.c0 b.c1)) (f1 x y))))
theorem cross01_run (f0 : Fp2 → Fp2 → Fp2) (f1 : Fp2 → Fp2 → Fp2) (f2 : Fp2 → Fp2 → Fp2) (a : Fp6) (b : Fp6) (i : Unit) (j : Unit) (x : Fp2) (y : Fp2) : plainRun (En [(77, K2 (kRow Fp2).arg (kRow Fp2).arg (kRow Fp2).rs.res f0), (36, K2 (kRow Fp2).arg (kRow Fp2).arg (kRow Fp2).rs.res f1), (38, K2 (kRow Fp2).arg (kRow Fp2).arg (kRow Fp2).rs.res f2)]) (kRow Fp2).rs 300 Try.f103 [.one ((kRow Fp6).av a), .one ((kRow Fp6).av b), .one ((kLit 0).av i), .one ((kLit 1).av j), .one ((kRow Fp2).av x), .one ((kRow Fp2).av y)] = cross01_T f0 f1 f2 a b i j x y := by kernel_rfl
theorem cross01_sat (f0 : Fp2 → Fp2 → Fp2) (f1 : Fp2 → Fp2 → Fp2) (f2 : Fp2 → Fp2 → Fp2) (a : Fp6) (b : Fp6) (i : Unit) (j : Unit) (x : Fp2) (y : Fp2) : (cross01_T f0 f1 f2 a b i j x y).sat fun q => q = some (cross01_G f0 f1 f2 a b i j x y) := (show some _ = some _ from rfl)
def cross01 (a : Fp6) (b : Fp6) (i : Unit) (j : Unit) (x : Fp2) (y : Fp2) : Fp2 := cross01_G halfF2 addF2 subF2 a b i j x y
theorem cross01_ok : CallOk Try.prog 103 (KN (KdL.cons (kRow Fp6) (KdL.cons (kRow Fp6) (KdL.cons (kLit 0) (KdL.cons (kLit 1) (KdL.cons (kRow Fp2) (KdL.cons (kRow Fp2) KdL.nil)))))) (kRow Fp2).rs.res (fun x => cross01 x.1 x.2.1 x.2.2.1 x.2.2.2.1 x.2.2.2.2.1 x.2.2.2.2.2.1)) :=
  PN (En_ok (.cons halfF2_ok (.cons addF2_ok (.cons subF2_ok .nil)))) Try.func103 (bodied Try.func103 (by kernel_rfl) (by kernel_rfl)) 300 (KdL.cons (kRow Fp6) (KdL.cons (kRow Fp6) (KdL.cons (kLit 0) (KdL.cons (kLit 1) (KdL.cons (kRow Fp2) (KdL.cons (kRow Fp2) KdL.nil)))))) (kRow Fp2).rs (fun x => cross01 x.1 x.2.1 x.2.2.1 x.2.2.2.1 x.2.2.2.2.1 x.2.2.2.2.2.1) (T := fun x => cross01_T halfF2 addF2 subF2 x.1 x.2.1 x.2.2.1 x.2.2.2.1 x.2.2.2.2.1 x.2.2.2.2.2.1) (fun x => cross01_run halfF2 addF2 subF2 x.1 x.2.1 x.2.2.1 x.2.2.2.1 x.2.2.2.2.1 x.2.2.2.2.2.1) (fun x => cross01_sat halfF2 addF2 subF2 x.1 x.2.1 x.2.2.1 x.2.2.2.1 x.2.2.2.2.1 x.2.2.2.2.2.1)
def cross02_G (f0 : Fp2 → Fp2 → Fp2) (f1 : Fp2 → Fp2 → Fp2) (f2 : Fp2 → Fp2 → Fp2) (a : Fp6) (b : Fp6) (i : Unit) (j : Unit) (x : Fp2) (y : Fp2) : Fp2 := (f2 (f0 (f1 a.c0 a.c2) (f1 b.c0 b.c2)) (f1 x y))
def cross02_T (f0 : Fp2 → Fp2 → Fp2) (f1 : Fp2 → Fp2 → Fp2) (f2 : Fp2 → Fp2 → Fp2) (a : Fp6) (b : Fp6) (i : Unit) (j : Unit) (x : Fp2) (y : Fp2) : Tree (Option (Fp2)) :=
  (.leaf (some (f2 (f0 (f1 a.c0 a.c2) (f1 b.c0 b.c2)) (f1 x y))))
theorem cross02_run (f0 : Fp2 → Fp2 → Fp2) (f1 : Fp2 → Fp2 → Fp2) (f2 : Fp2 → Fp2 → Fp2) (a : Fp6) (b : Fp6) (i : Unit) (j : Unit) (x : Fp2) (y : Fp2) : plainRun (En [(77, K2 (kRow Fp2).arg (kRow Fp2).arg (kRow Fp2).rs.res f0), (36, K2 (kRow Fp2).arg (kRow Fp2).arg (kRow Fp2).rs.res f1), (38, K2 (kRow Fp2).arg (kRow Fp2).arg (kRow Fp2).rs.res f2)]) (kRow Fp2).rs 300 Try.f103 [.one ((kRow Fp6).av a), .one ((kRow Fp6).av b), .one ((kLit 0).av i), .one ((kLit 2).av j), .one ((kRow Fp2).av x), .one ((kRow Fp2).av y)] = cross02_T f0 f1 f2 a b i j x y := by kernel_rfl
theorem cross02_sat (f0 : Fp2 → Fp2 → Fp2) (f1 : Fp2 → Fp2 → Fp2) (f2 : Fp2 → Fp2 → Fp2) (a : Fp6) (b : Fp6) (i : Unit) (j : Unit) (x : Fp2) (y : Fp2) : (cross02_T f0 f1 f2 a b i j x y).sat fun q => q = some (cross02_G f0 f1 f2 a b i j x y) := (show some _ = some _ from rfl)
def cross02 (a : Fp6) (b : Fp6) (i : Unit) (j : Unit) (x : Fp2) (y : Fp2) : Fp2 := cross02_G halfF2 addF2 subF2 a b i j x y
theorem cross02_ok : CallOk Try.prog 103 (KN (KdL.cons (kRow Fp6) (KdL.cons (kRow Fp6) (KdL.cons (kLit 0) (KdL.cons (kLit 2) (KdL.cons (kRow Fp2) (KdL.cons (kRow Fp2) KdL.nil)))))) (kRow Fp2).rs.res (fun x => cross02 x.1 x.2.1 x.2.2.1 x.2.2.2.1 x.2.2.2.2.1 x.2.2.2.2.2.1)) :=
  PN (En_ok (.cons halfF2_ok (.cons addF2_ok (.cons subF2_ok .nil)))) Try.func103 (bodied Try.func103 (by kernel_rfl) (by kernel_rfl)) 300 (KdL.cons (kRow Fp6) (KdL.cons (kRow Fp6) (KdL.cons (kLit 0) (KdL.cons (kLit 2) (KdL.cons (kRow Fp2) (KdL.cons (kRow Fp2) KdL.nil)))))) (kRow Fp2).rs (fun x => cross02 x.1 x.2.1 x.2.2.1 x.2.2.2.1 x.2.2.2.2.1 x.2.2.2.2.2.1) (T := fun x => cross02_T halfF2 addF2 subF2 x.1 x.2.1 x.2.2.1 x.2.2.2.1 x.2.2.2.2.1 x.2.2.2.2.2.1) (fun x => cross02_run halfF2 addF2 subF2 x.1 x.2.1 x.2.2.1 x.2.2.2.1 x.2.2.2.2.1 x.2.2.2.2.2.1) (fun x => cross02_sat halfF2 addF2 subF2 x.1 x.2.1 x.2.2.1 x.2.2.2.1 x.2.2.2.2.1 x.2.2.2.2.2.1)
def cross12_G (f0 : Fp2 → Fp2 → Fp2) (f1 : Fp2 → Fp2 → Fp2) (f2 : Fp2 → Fp2 → Fp2) (a : Fp6) (b : Fp6) (i : Unit) (j : Unit) (x : Fp2) (y : Fp2) : Fp2 := (f2 (f0 (f1 a.c1 a.c2) (f1 b.c1 b.c2)) (f1 x y))
def cross12_T (f0 : Fp2 → Fp2 → Fp2) (f1 : Fp2 → Fp2 → Fp2) (f2 : Fp2 → Fp2 → Fp2) (a : Fp6) (b : Fp6) (i : Unit) (j : Unit) (x : Fp2) (y : Fp2) : Tree (Option (Fp2)) :=
  (.leaf (some (f2 (f0 (f1 a.c1 a.c2) (f1 b.c1 b.c2)) (f1 x y))))
theorem cross12_run (f0 : Fp2 → Fp2 → Fp2) (f1 : Fp2 → Fp2 → Fp2) (f2 : Fp2 → Fp2 → Fp2) (a : Fp6) (b : Fp6) (i : Unit) (j : Unit) (x : Fp2) (y : Fp2) : plainRun (En [(77, K2 (kRow Fp2).arg (kRow Fp2).arg (kRow Fp2).rs.res f0), (36, K2 (kRow Fp2).arg (kRow Fp2).arg (kRow Fp2).rs.res f1), (38, K2 (kRow Fp2).arg (kRow Fp2).arg (kRow Fp2).rs.res f2)]) (kRow Fp2).rs 300 Try.f103 [.one ((kRow Fp6).av a), .one ((kRow Fp6).av b), .one ((kLit 1).av i), .one ((kLit 2).av j), .one ((kRow Fp2).av x), .one ((kRow Fp2).av y)] = cross12_T f0 f1 f2 a b i j x y := by kernel_rfl
theorem cross12_sat (f0 : Fp2 → Fp2 → Fp2) (f1 : Fp2 → Fp2 → Fp2) (f2 : Fp2 → Fp2 → Fp2) (a : Fp6) (b : Fp6) (i : Unit) (j : Unit) (x : Fp2) (y : Fp2) : (cross12_T f0 f1 f2 a b i j x y).sat fun q => q = some (cross12_G f0 f1 f2 a b i j x y) := (show some _ = some _ from rfl)
def cross12 (a : Fp6) (b : Fp6) (i : Unit) (j : Unit) (x : Fp2) (y : Fp2) : Fp2 := cross12_G halfF2 addF2 subF2 a b i j x y
theorem cross12_ok : CallOk Try.prog 103 (KN (KdL.cons (kRow Fp6) (KdL.cons (kRow Fp6) (KdL.cons (kLit 1) (KdL.cons (kLit 2) (KdL.cons (kRow Fp2) (KdL.cons (kRow Fp2) KdL.nil)))))) (kRow Fp2).rs.res (fun x => cross12 x.1 x.2.1 x.2.2.1 x.2.2.2.1 x.2.2.2.2.1 x.2.2.2.2.2.1)) :=
  PN (En_ok (.cons halfF2_ok (.cons addF2_ok (.cons subF2_ok .nil)))) Try.func103 (bodied Try.func103 (by kernel_rfl) (by kernel_rfl)) 300 (KdL.cons (kRow Fp6) (KdL.cons (kRow Fp6) (KdL.cons (kLit 1) (KdL.cons (kLit 2) (KdL.cons (kRow Fp2) (KdL.cons (kRow Fp2) KdL.nil)))))) (kRow Fp2).rs (fun x => cross12 x.1 x.2.1 x.2.2.1 x.2.2.2.1 x.2.2.2.2.1 x.2.2.2.2.2.1) (T := fun x => cross12_T halfF2 addF2 subF2 x.1 x.2.1 x.2.2.1 x.2.2.2.1 x.2.2.2.2.1 x.2.2.2.2.2.1) (fun x => cross12_run halfF2 addF2 subF2 x.1 x.2.1 x.2.2.1 x.2.2.2.1 x.2.2.2.2.1 x.2.2.2.2.2.1) (fun x => cross12_sat halfF2 addF2 subF2 x.1 x.2.1 x.2.2.1 x.2.2.2.1 x.2.2.2.2.1 x.2.2.2.2.2.1)

end Go.Proofs.Ytehhcpopfgieeaa
