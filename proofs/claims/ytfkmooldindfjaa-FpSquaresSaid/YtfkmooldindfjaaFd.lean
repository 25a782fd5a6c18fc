/- The base field's functions, part d: sums, differences, products. -/
import Derived.Test.YtfkmooldindfjaaFc
set_option linter.unusedSimpArgs false
set_option linter.unusedVariables false
namespace Go.Proofs.Ytfkmooldindfjaa
open Go.RowKit

abbrev Kc (x : Fp) : Contract := K0 (kRow Fp).rs.res x
abbrev Kf (F : Fp → Fp) : Contract := K1 (kRow Fp).arg (kRow Fp).rs.res F
abbrev Kff (F : Fp → Fp → Fp) : Contract := K2 (kRow Fp).arg (kRow Fp).arg (kRow Fp).rs.res F
/-- The program with contracts of what is called. -/
noncomputable abbrev En (T : Table) : Env := mkEnv Try.prog T []
theorem En_ok {T : Table} (h : TableOk Try.prog T) : EnvOk (En T) := mkEnv_ok follows_mixed h

abbrev vF (a : Fp) : AV := .one ((kRow Fp).av a)
abbrev vU (a : UInt64) : AV := .one (kU64.av a)
abbrev rF : Rs Fp := (kRow Fp).rs

/-- (2^64)^12, modulo the modulus. -/
def sqLimbs : Fp := ⟨0xf4df1f341c341746, 0x0a76e6a609d104f1, 0x8de5476c4c95b6d5, 0x67eb88a9939d83c0, 0x9a793e85b519952d, 0x11988fe592cae3aa⟩

theorem square_ok : CallOk Try.prog 66 (Kc sqLimbs) := P0 E0_ok Try.func66 (bodied Try.func66 (by kernel_rfl) (by kernel_rfl)) 100 rF sqLimbs (T := .leaf (some sqLimbs)) (by kernel_rfl) rfl

def wholeF (a : Fp) : Fp := halfF a sqLimbs
def oneFp : Fp := ⟨1, 0, 0, 0, 0, 0⟩
def zeroFp : Fp := ⟨0, 0, 0, 0, 0, 0⟩
def lowF (a : Fp) : Fp := halfF a oneFp

theorem whole_run (hF : Fp → Fp → Fp) (q a : Fp) : plainRun (En [(46, Kff hF), (66, Kc q)]) rF 100 Try.f44 [vF a] = .leaf (some (hF a q)) := by kernel_rfl
theorem low_run (hF : Fp → Fp → Fp) (a : Fp) : plainRun (En [(46, Kff hF)]) rF 100 Try.f45 [vF a] = .leaf (some (hF a oneFp)) := by kernel_rfl

theorem whole_ok : CallOk Try.prog 44 (Kf wholeF) := P1 (En_ok (.cons half_ok (.cons square_ok .nil))) Try.func44 (bodied Try.func44 (by kernel_rfl) (by kernel_rfl)) 100 (kRow Fp) rF wholeF (whole_run halfF sqLimbs) (fun _ => Tree.sat_leaf (by simp only [wholeF]))
theorem low_ok : CallOk Try.prog 45 (Kf lowF) := P1 (En_ok (.cons half_ok .nil)) Try.func45 (bodied Try.func45 (by kernel_rfl) (by kernel_rfl)) 100 (kRow Fp) rF lowF (low_run halfF) (fun _ => Tree.sat_leaf (by simp only [lowF]))

/-- A sum, and its carry. -/
def addT (a b : Fp) : Fp × Bool :=
  let c0 := addC a.l0 b.l0 false
  let c1 := addC a.l1 b.l1 c0
  let c2 := addC a.l2 b.l2 c1
  let c3 := addC a.l3 b.l3 c2
  let c4 := addC a.l4 b.l4 c3
  (⟨addS a.l0 b.l0 false, addS a.l1 b.l1 c0, addS a.l2 b.l2 c1, addS a.l3 b.l3 c2, addS a.l4 b.l4 c3, addS a.l5 b.l5 c4⟩, addC a.l5 b.l5 c4)
def addF (a b : Fp) : Fp := lessF (addT a b).1 (b2u (addT a b).2)

theorem add_run (lF : Fp → UInt64 → Fp) (a b : Fp) : plainRun (En [(53, K3x addS addC), (54, K2 (kRow Fp).arg kU64.arg rF.res lF)]) rF 100 Try.f25 [vF a, vF b] = .leaf (some (lF (addT a b).1 (b2u (addT a b).2))) := by kernel_rfl
theorem add_ok : CallOk Try.prog 25 (Kff addF) := P2 (En_ok (.cons add64_ok (.cons less_ok .nil))) Try.func25 (bodied Try.func25 (by kernel_rfl) (by kernel_rfl)) 100 (kRow Fp) (kRow Fp) rF addF (add_run lessF) (fun _ _ => Tree.sat_leaf (by simp only [addF]))

/-- A difference, and its borrow. -/
def subT (a b : Fp) : Fp × Bool :=
  let c0 := subB a.l0 b.l0 false
  let c1 := subB a.l1 b.l1 c0
  let c2 := subB a.l2 b.l2 c1
  let c3 := subB a.l3 b.l3 c2
  let c4 := subB a.l4 b.l4 c3
  (⟨subS a.l0 b.l0 false, subS a.l1 b.l1 c0, subS a.l2 b.l2 c1, subS a.l3 b.l3 c2, subS a.l4 b.l4 c3, subS a.l5 b.l5 c4⟩, subB a.l5 b.l5 c4)
def subF (a b : Fp) : Fp := match decide (b2u (subT a b).2 = 0) with | true => (subT a b).1 | false => (addT (subT a b).1 pLimbs).1

theorem sub_run (a b : Fp) : plainRun E1 rF 100 Try.f27 [vF a, vF b] = .br (decide (b2u (subT a b).2 = 0)) (.leaf (some (subT a b).1)) (.leaf (some (addT (subT a b).1 pLimbs).1)) := by kernel_rfl
theorem sub_ok : CallOk Try.prog 27 (Kff subF) := P2 E1_ok Try.func27 (bodied Try.func27 (by kernel_rfl) (by kernel_rfl)) 100 (kRow Fp) (kRow Fp) rF subF sub_run
  (by intro a b; exact ⟨fun h => congrArg some (by unfold subF; rw [h]), fun h => congrArg some (by unfold subF; rw [h])⟩)

def negF (a : Fp) : Fp := subF zeroFp a
def mulF (a b : Fp) : Fp := wholeF (halfF a b)
def ofF (n : UInt64) : Fp := ⟨n, 0, 0, 0, 0, 0⟩

theorem neg_run (sF : Fp → Fp → Fp) (a : Fp) : plainRun (En [(27, Kff sF)]) rF 100 Try.f18 [vF a] = .leaf (some (sF zeroFp a)) := by kernel_rfl
theorem neg_ok : CallOk Try.prog 18 (Kf negF) := P1 (En_ok (.cons sub_ok .nil)) Try.func18 (bodied Try.func18 (by kernel_rfl) (by kernel_rfl)) 100 (kRow Fp) rF negF (neg_run subF) (fun _ => Tree.sat_leaf (by simp only [negF]))
theorem mul_run (hF : Fp → Fp → Fp) (wF : Fp → Fp) (a b : Fp) : plainRun (En [(46, Kff hF), (44, Kf wF)]) rF 100 Try.f17 [vF a, vF b] = .leaf (some (wF (hF a b))) := by kernel_rfl
theorem mul_ok : CallOk Try.prog 17 (Kff mulF) := P2 (En_ok (.cons half_ok (.cons whole_ok .nil))) Try.func17 (bodied Try.func17 (by kernel_rfl) (by kernel_rfl)) 100 (kRow Fp) (kRow Fp) rF mulF (mul_run halfF wholeF) (fun _ _ => Tree.sat_leaf (by simp only [mulF]))
theorem of_run (n : UInt64) : plainRun (En []) rF 100 Try.f19 [vU n] = .leaf (some (ofF n)) := by kernel_rfl
theorem of_ok : CallOk Try.prog 19 (K1 kU64.arg rF.res ofF) := P1 (En_ok .nil) Try.func19 (bodied Try.func19 (by kernel_rfl) (by kernel_rfl)) 100 kU64 rF ofF of_run (fun _ => Tree.sat_leaf rfl)

end Go.Proofs.Ytfkmooldindfjaa
