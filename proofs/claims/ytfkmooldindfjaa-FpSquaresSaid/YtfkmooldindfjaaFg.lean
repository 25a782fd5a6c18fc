/- The base field's functions, part g: inverses and roots. -/
import Derived.Test.YtfkmooldindfjaaFf
set_option linter.unusedSimpArgs false
set_option linter.unusedVariables false
namespace Go.Proofs.Ytfkmooldindfjaa
open Go.RowKit

abbrev rFI : Rs (Fp × Int) := (kRow Fp).rs2 kInt
abbrev rFB : Rs (Fp × Bool) := (kRow Fp).rs2 kBool
abbrev Kpow (pF : Fp → List UInt64 → Fp) : Contract := K2 (kRow Fp).arg aL rF.res pF

def fpEq (a b : Fp) : Bool := a.l0 == b.l0 && (a.l1 == b.l1 && (a.l2 == b.l2 && (a.l3 == b.l3 && (a.l4 == b.l4 && (a.l5 == b.l5 && true)))))

theorem fpEq_iff (a b : Fp) : fpEq a b = true ↔ a = b := by
  cases a; cases b
  simp [fpEq]

def invF (a : Fp) : Fp × Int := match fpEq a zeroFp with | true => (a, 7) | false => (powF a [pLimbs.l0 - 2, pLimbs.l1, pLimbs.l2, pLimbs.l3, pLimbs.l4, pLimbs.l5], 0)
theorem inv_run (pF : Fp → List UInt64 → Fp) (m a : Fp) : plainRun (En [(40, Kc m), (15, Kpow pF)]) rFI 100 Try.f11 [vF a] =
    .br (fpEq a zeroFp) (.leaf (some (a, 7))) (.leaf (some (pF a [m.l0 - 2, m.l1, m.l2, m.l3, m.l4, m.l5], 0))) := by kernel_rfl
theorem inv_ok : CallOk Try.prog 11 (K1 (kRow Fp).arg rFI.res invF) := P1 (En_ok (.cons modulus_ok (.cons pow_ok .nil))) Try.func11 (bodied Try.func11 (by kernel_rfl) (by kernel_rfl)) 100 (kRow Fp) rFI invF (inv_run powF pLimbs)
  (fun a => ⟨fun h => congrArg some (by simp only [invF, h]), fun h => congrArg some (by simp only [invF, h])⟩)

def rootG (pF : Fp → List UInt64 → Fp) (hF : Fp → Fp) (m a : Fp) : Fp := pF a (hF (hF ⟨m.l0 + 1, m.l1, m.l2, m.l3, m.l4, m.l5⟩)).list
def sqrtG (nF : Fp → Fp) (mF : Fp → Fp → Fp) (gF : Fp → Bool) (x a : Fp) : Fp × Bool := match !(fpEq (mF x x) a) with
  | true => (zeroFp, false)
  | false => match gF x with
    | true => (nF x, true)
    | false => (x, true)
def sqrtT (nF : Fp → Fp) (mF : Fp → Fp → Fp) (gF : Fp → Bool) (x a : Fp) : Tree (Option (Fp × Bool)) := .br (!(fpEq (mF x x) a)) (.leaf (some (zeroFp, false))) (.br (gF x) (.leaf (some (nF x, true))) (.leaf (some (x, true))))

theorem sqrt_run (pF : Fp → List UInt64 → Fp) (hF nF : Fp → Fp) (mF : Fp → Fp → Fp) (gF : Fp → Bool) (m a : Fp) :
    plainRun (En [(40, Kc m), (15, Kpow pF), (41, Kf hF), (17, Kff mF), (18, Kf nF), (20, K1 (kRow Fp).arg kBool.rs.res gF)]) rFB 100 Try.f13 [vF a] = sqrtT nF mF gF (rootG pF hF m a) a := by kernel_rfl

theorem sqrtT_sat (nF : Fp → Fp) (mF : Fp → Fp → Fp) (gF : Fp → Bool) (x a : Fp) : (sqrtT nF mF gF x a).sat fun q => q = some (sqrtG nF mF gF x a) := by
  refine ⟨fun h => ?_, fun h => ⟨fun h2 => ?_, fun h2 => ?_⟩⟩
  · exact congrArg some (by unfold sqrtG; rw [h])
  · exact congrArg some (by unfold sqrtG; rw [h, h2])
  · exact congrArg some (by unfold sqrtG; rw [h, h2])

def rootF (a : Fp) : Fp := rootG powF halvedF pLimbs a
def sqrtF (a : Fp) : Fp × Bool := sqrtG negF mulF greatF (rootF a) a

theorem sqrt_ok : CallOk Try.prog 13 (K1 (kRow Fp).arg rFB.res sqrtF) :=
  P1 (En_ok (.cons modulus_ok (.cons pow_ok (.cons halved_ok (.cons mul_ok (.cons neg_ok (.cons great_ok .nil))))))) Try.func13 (bodied Try.func13 (by kernel_rfl) (by kernel_rfl)) 100 (kRow Fp) rFB sqrtF
    (sqrt_run powF halvedF negF mulF greatF pLimbs) (fun a => sqrtT_sat negF mulF greatF (rootF a) a)

end Go.Proofs.Ytfkmooldindfjaa
