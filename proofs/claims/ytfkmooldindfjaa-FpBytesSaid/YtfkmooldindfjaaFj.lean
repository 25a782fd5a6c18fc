/- The statements of layer 3 over the field alone: what begun, FpSquares and FpField compute. -/
import Derived.Test.YtfkmooldindfjaaFA
set_option linter.unusedSimpArgs false
set_option linter.unusedVariables false
namespace Go.Proofs.Ytfkmooldindfjaa
open Go.RowKit

def lB (b : Bool) : Tree (Option Bool) := .leaf (some b)
def t : Tree (Option Bool) := lB true
def f : Tree (Option Bool) := lB false

/-! ## begun -/

def begT (c0 c1 c2 c3 c4 c5 : Bool) : Tree (Option Bool) := .br (c0) (.br (c1) (.br (c2) (.br (c3) (.br (c4) (.br (c5) (t) (f)) (f)) (f)) (f)) (f)) (f)
theorem begT_ok : ∀ c0 c1 c2 c3 c4 c5 : Bool, (c0 && c1 && c2 && c3 && c4 && c5) = true → (begT c0 c1 c2 c3 c4 c5).evalB = some (some true) := of_decide_eq_true (by kernel_rfl)

def begG (iF : Fp → Fp × Int) (oF' : UInt64 → Fp) (sF : Fp → Fp × Bool) (mF : Fp → Fp → Fp) (yF : Fp → Bool) : Bool :=
  ((iF (oF' 2)).2 == 0) && fpEq (mF (iF (oF' 2)).1 (oF' 2)) (oF' 1) && (sF (oF' 4)).2 && fpEq (sF (oF' 4)).1 (oF' 2) && fpEq (oF' 3) ⟨3, 0, 0, 0, 0, 0⟩ && yF (iF (oF' 2)).1

theorem begun_run (iF : Fp → Fp × Int) (oF' : UInt64 → Fp) (sF : Fp → Fp × Bool) (mF : Fp → Fp → Fp) (yF : Fp → Bool) (p : Fp) :
    plainRun (Ens [(11, Kinv iF), (19, Kof oF'), (13, Ksqrt sF), (17, Kff mF), (24, Kfb yF), (22, K0 (rS 24) p)] [22]) kBool.rs 100 Try.f9 [] =
    begT ((iF (oF' 2)).2 == 0) (fpEq (mF (iF (oF' 2)).1 (oF' 2)) (oF' 1)) (sF (oF' 4)).2 (fpEq (sF (oF' 4)).1 (oF' 2)) (fpEq (oF' 3) ⟨3, 0, 0, 0, 0, 0⟩) (yF (iF (oF' 2)).1) := by kernel_rfl

theorem begun_ok (h : begG invF ofF sqrtF mulF mayF = true) : CallOk Try.prog 9 (Kb true) :=
  P0 (Ens_ok (.cons inv_ok (.cons of_ok (.cons sqrt_ok (.cons mul_ok (.cons may_ok (.cons P_ok .nil))))))) Try.func9 (bodied Try.func9 (by kernel_rfl) (by kernel_rfl)) 100 kBool.rs true (begun_run invF ofF sqrtF mulF mayF pLimbs)
    (Tree.evalB_sat (begT_ok _ _ _ _ _ _ h))

/-! ## FpSquares -/

def sqT (c0 c1 c2 c3 c4 c5 c6 c7 c8 c9 c10 : Bool) : Tree (Option Bool) := .br (!c0) (f) (.br (!c1) (t) (.br (c2) (.br (c3) (.br (!c5) (.br (c6) (.br (c7) (.br (c8) (.br (c6) (t) (lB c10)) (.br (!c6) (.br (c9) (.br (c6) (t) (lB c10)) (f)) (f))) (.br (!c6) (.br (c9) (.br (c6) (t) (lB c10)) (f)) (f))) (.br (!c6) (.br (c9) (.br (c6) (t) (lB c10)) (f)) (f))) (f)) (.br (c4) (.br (!c5) (.br (c6) (.br (c7) (.br (c8) (.br (c6) (t) (lB c10)) (.br (!c6) (.br (c9) (.br (c6) (t) (lB c10)) (f)) (f))) (.br (!c6) (.br (c9) (.br (c6) (t) (lB c10)) (f)) (f))) (.br (!c6) (.br (c9) (.br (c6) (t) (lB c10)) (f)) (f))) (f)) (f))) (f)))
theorem sqT_ok : ∀ c1 c2 c3 c4 c5 c6 c7 c8 c9 c10 : Bool, (!c1 || (c2 && (c3 || c4) && !c5 && (c6 && c7 && c8 || !c6 && c9) && (c6 || c10))) = true → (sqT true c1 c2 c3 c4 c5 c6 c7 c8 c9 c10).evalB = some (some true) := of_decide_eq_true (by kernel_rfl)

def sqG (mpF : Fp → Bool) (oF' : UInt64 → Fp) (sF : Fp → Fp × Bool) (mF : Fp → Fp → Fp) (gF : Fp → Bool) (nF : Fp → Fp) (a : Fp) : Bool :=
  !(mpF a) || ((sF (mF a a)).2 && (fpEq (sF (mF a a)).1 a || fpEq (sF (mF a a)).1 (nF a)) && !(gF (sF (mF a a)).1) && (fpEq a (oF' 0) && (sF a).2 && (sF (nF a)).2 || !(fpEq a (oF' 0)) && ((sF a).2 != (sF (nF a)).2)) && (fpEq a (oF' 0) || (gF a != gF (nF a))))

theorem squares_run (b : Bool) (oF' : UInt64 → Fp) (sF : Fp → Fp × Bool) (mF : Fp → Fp → Fp) (mpF gF : Fp → Bool) (nF : Fp → Fp) (a : Fp) :
    plainRun (En [(9, Kb b), (10, Kfb mpF), (19, Kof oF'), (13, Ksqrt sF), (17, Kff mF), (18, Kf nF), (20, Kfb gF)]) kBool.rs 100 Try.f4 [vF a] =
    sqT b (mpF a) (sF (mF a a)).2 (fpEq (sF (mF a a)).1 a) (fpEq (sF (mF a a)).1 (nF a)) (gF (sF (mF a a)).1) (fpEq a (oF' 0)) (sF a).2 (sF (nF a)).2 ((sF a).2 != (sF (nF a)).2) (gF a != gF (nF a)) := by kernel_rfl

theorem squares_ok (hb : CallOk Try.prog 9 (Kb true)) (h : ∀ a, sqG mayPF ofF sqrtF mulF greatF negF a = true) : CallOk Try.prog 4 (Kfb fun _ => true) :=
  P1 (En_ok (.cons hb (.cons mayP_ok (.cons of_ok (.cons sqrt_ok (.cons mul_ok (.cons neg_ok (.cons great_ok .nil)))))))) Try.func4 (bodied Try.func4 (by kernel_rfl) (by kernel_rfl)) 100 (kRow Fp) kBool.rs (fun _ => true)
    (squares_run true ofF sqrtF mulF mayPF greatF negF) (fun a => Tree.evalB_sat (sqT_ok _ _ _ _ _ _ _ _ _ _ (h a)))

theorem squares_gives (hb : CallOk Try.prog 9 (Kb true)) (h : ∀ a, sqG mayPF ofF sqrtF mulF greatF negF a = true) (a : Fp) (w : World) : Gives Try.prog 4 #[rowV a] w kBool.rs.res true :=
  P1g (En_ok (.cons hb (.cons mayP_ok (.cons of_ok (.cons sqrt_ok (.cons mul_ok (.cons neg_ok (.cons great_ok .nil)))))))) Try.func4 100 (kRow Fp) kBool.rs (fun _ => true)
    (squares_run true ofF sqrtF mulF mayPF greatF negF) (fun a => Tree.evalB_sat (sqT_ok _ _ _ _ _ _ _ _ _ _ (h a))) a w

/-! ## FpField -/

def fieldT (c0 c1 c2 c3 c4 c5 c6 c7 c8 c9 c10 c11 c12 : Bool) : Tree (Option Bool) := .br (!c0) (f) (.br (!c1) (t) (.br (!c2) (t) (.br (!c3) (t) (.br (c4) (.br (c5) (.br (c6) (.br (c7) (.br (c8) (.br (c9) (.br (c10) (t) (.br (c11) (lB c12) (f))) (.br (c11) (lB c12) (f))) (f)) (f)) (f)) (f)) (f)))))
theorem fieldT_ok : ∀ c1 c2 c3 c4 c5 c6 c7 c8 c9 c10 c11 c12 : Bool, (!c1 || !c2 || !c3 || (c4 && c5 && c6 && c7 && c8 && (c9 && c10 || c11 && c12))) = true → (fieldT true c1 c2 c3 c4 c5 c6 c7 c8 c9 c10 c11 c12).evalB = some (some true) := of_decide_eq_true (by kernel_rfl)

def fieldG (mpF : Fp → Bool) (iF : Fp → Fp × Int) (oF' : UInt64 → Fp) (aF uF mF : Fp → Fp → Fp) (x y z : Fp) : Bool :=
  !(mpF x) || !(mpF y) || !(mpF z) || (fpEq (mF (aF x y) z) (aF (mF x z) (mF y z)) && fpEq (mF x (mF y z)) (mF (mF x y) z) && fpEq (aF x (aF y z)) (aF (aF x y) z) && fpEq (uF (aF x y) y) x && fpEq (mF x y) (mF y x) &&
    (fpEq x (oF' 0) && ((iF x).2 == 7) || ((iF x).2 == 0) && fpEq (mF x (iF x).1) (oF' 1)))

theorem field_run (b : Bool) (mpF : Fp → Bool) (iF : Fp → Fp × Int) (oF' : UInt64 → Fp) (aF uF mF : Fp → Fp → Fp) (x y z : Fp) :
    plainRun (En [(9, Kb b), (10, Kfb mpF), (11, Kinv iF), (19, Kof oF'), (17, Kff mF), (25, Kff aF), (27, Kff uF)]) kBool.rs 100 Try.f7 [vF x, vF y, vF z] =
    fieldT b (mpF x) (mpF y) (mpF z) (fpEq (mF (aF x y) z) (aF (mF x z) (mF y z))) (fpEq (mF x (mF y z)) (mF (mF x y) z)) (fpEq (aF x (aF y z)) (aF (aF x y) z)) (fpEq (uF (aF x y) y) x) (fpEq (mF x y) (mF y x)) (fpEq x (oF' 0)) ((iF x).2 == 7) ((iF x).2 == 0) (fpEq (mF x (iF x).1) (oF' 1)) := by kernel_rfl

theorem field_ok (hb : CallOk Try.prog 9 (Kb true)) (h : ∀ x y z, fieldG mayPF invF ofF addF subF mulF x y z = true) : CallOk Try.prog 7 (K3 (kRow Fp).arg (kRow Fp).arg (kRow Fp).arg kBool.rs.res fun _ _ _ => true) :=
  P3 (En_ok (.cons hb (.cons mayP_ok (.cons inv_ok (.cons of_ok (.cons mul_ok (.cons add_ok (.cons sub_ok .nil)))))))) Try.func7 (bodied Try.func7 (by kernel_rfl) (by kernel_rfl)) 100 (kRow Fp) (kRow Fp) (kRow Fp) kBool.rs (fun _ _ _ => true)
    (field_run true mayPF invF ofF addF subF mulF) (fun x y z => Tree.evalB_sat (fieldT_ok _ _ _ _ _ _ _ _ _ _ _ _ (h x y z)))

theorem field_gives (hb : CallOk Try.prog 9 (Kb true)) (h : ∀ x y z, fieldG mayPF invF ofF addF subF mulF x y z = true) (x y z : Fp) (w : World) : Gives Try.prog 7 #[rowV x, rowV y, rowV z] w kBool.rs.res true :=
  P3g (En_ok (.cons hb (.cons mayP_ok (.cons inv_ok (.cons of_ok (.cons mul_ok (.cons add_ok (.cons sub_ok .nil)))))))) Try.func7 100 (kRow Fp) (kRow Fp) (kRow Fp) kBool.rs (fun _ _ _ => true)
    (field_run true mayPF invF ofF addF subF mulF) (fun x y z => Tree.evalB_sat (fieldT_ok _ _ _ _ _ _ _ _ _ _ _ _ (h x y z))) x y z w

end Go.Proofs.Ytfkmooldindfjaa
