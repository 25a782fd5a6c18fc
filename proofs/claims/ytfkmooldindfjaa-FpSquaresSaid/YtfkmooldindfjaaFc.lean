/- The base field's functions, part c: Montgomery's product. -/
import Derived.Test.YtfkmooldindfjaaFb
set_option linter.unusedSimpArgs false
set_option linter.unusedVariables false
namespace Go.Proofs.Ytfkmooldindfjaa
open Go.RowKit

noncomputable def T2 : Table := (54, K2 (kRow Fp).arg kU64.arg (kRow Fp).rs.res lessF) :: (67, K2 kU64.arg kU64.arg (kU64.rs2 kU64).res fun x y => (mulHi x y, x * y)) :: T1
theorem T2_ok : TableOk Try.prog T2 := .cons less_ok (.cons mul64_ok T1_ok)
noncomputable def E2 : Env := mkEnv Try.prog T2 []
theorem E2_ok : EnvOk E2 := mkEnv_ok follows_mixed T2_ok

/-- Seven limbs. -/
structure L7 where
  t0 : UInt64
  t1 : UInt64
  t2 : UInt64
  t3 : UInt64
  t4 : UInt64
  t5 : UInt64
  t6 : UInt64

def pInv : UInt64 := 0x89f3fffcfffcfffd

/-- The lower half of a round: a multiple of the modulus, and a limb less. -/
def roundB (t0 t1 t2 t3 t4 t5 top : UInt64) (more : Bool) : L7 :=
  let x := t0 * pInv
  let d0 := mulHi x pLimbs.l0 + b2u (addC (x * pLimbs.l0) t0 false)
  let d1 := macH x pLimbs.l1 t1 d0
  let d2 := macH x pLimbs.l2 t2 d1
  let d3 := macH x pLimbs.l3 t3 d2
  let d4 := macH x pLimbs.l4 t4 d3
  let d5 := macH x pLimbs.l5 t5 d4
  ⟨macL x pLimbs.l1 t1 d0, macL x pLimbs.l2 t2 d1, macL x pLimbs.l3 t3 d2, macL x pLimbs.l4 t4 d3, macL x pLimbs.l5 t5 d4, addS top d5 false, b2u more + b2u (addC top d5 false)⟩

def roundF (a : Fp) (b : UInt64) (t : L7) : L7 :=
  let c0 := macH a.l0 b t.t0 0
  let c1 := macH a.l1 b t.t1 c0
  let c2 := macH a.l2 b t.t2 c1
  let c3 := macH a.l3 b t.t3 c2
  let c4 := macH a.l4 b t.t4 c3
  let c5 := macH a.l5 b t.t5 c4
  roundB (macL a.l0 b t.t0 0) (macL a.l1 b t.t1 c0) (macL a.l2 b t.t2 c1) (macL a.l3 b t.t3 c2) (macL a.l4 b t.t4 c3) (macL a.l5 b t.t5 c4) (addS t.t6 c5 false) (addC t.t6 c5 false)

def half1 (a b : Fp) : L7 := roundF a b.l0 ⟨0, 0, 0, 0, 0, 0, 0⟩
def half2 (a b : Fp) : L7 := roundF a b.l1 (half1 a b)
def half3 (a b : Fp) : L7 := roundF a b.l2 (half2 a b)
def half4 (a b : Fp) : L7 := roundF a b.l3 (half3 a b)
def half5 (a b : Fp) : L7 := roundF a b.l4 (half4 a b)
def halfT (a b : Fp) : L7 := roundF a b.l5 (half5 a b)
def L7.low (t : L7) : Fp := ⟨t.t0, t.t1, t.t2, t.t3, t.t4, t.t5⟩
def halfF (a b : Fp) : Fp := lessF (halfT a b).low (halfT a b).t6

/-! the walk -/

def ptrV (n : Nat) : AV := .one (.c (.ptr n 0))
def litV (n : Nat) : AV := .one (.c (.lit .i64 n))
def own (ty : TypeId) (cs : List Cell) : HE := .live ⟨true, ty, 0, .row cs⟩
def L7.cs (t : L7) : List Cell := [.u64 t.t0, .u64 t.t1, .u64 t.t2, .u64 t.t3, .u64 t.t4, .u64 t.t5, .u64 t.t6]
def zeros (n : Nat) : List Cell := List.replicate n (.lit .u64 0)

def hSt (a b : Fp) (k : Nat) (t : List Cell) : St :=
  mkSt 139 [(2, ptrV 0), (3, ptrV 1), (4, ptrV 2), (5, ptrV 3), (6, ptrV 4), (18, litV k)] [own 24 (Row.cs a), own 24 (Row.cs b), own 24 (zeros 6), own 24 (Row.cs pLimbs), own 63 t]

def hCut : X → Option (List Nat × List Nat) := same [2, 3, 4, 5, 6, 18] [0, 1, 2, 3, 4]

noncomputable def hCode : List Code := flat (codeOf Try.f46)
noncomputable def hBody : Code := loopAt Try.f46 0

set_option maxRecDepth 100000
theorem half_start (a b : Fp) : stageT E2 100 (hCode.take 4) (startSt Try.f46 [.one ((kRow Fp).av a), .one ((kRow Fp).av b)] []) [2, 3, 4, 5, 6, 18] [0, 1, 2, 3, 4] = .leaf (hSt a b 0 (zeros 7)) := by kernel_rfl
theorem half_round0 (a b : Fp) : roundT E2 100 hBody (hSt a b 0 (zeros 7)) hCut = .leaf (.normal, hSt a b 1 (roundF a b.l0 ⟨0, 0, 0, 0, 0, 0, 0⟩).cs) := by kernel_rfl
theorem half_round1 (a b : Fp) (t : L7) : roundT E2 100 hBody (hSt a b 1 t.cs) hCut = .leaf (.normal, hSt a b 2 (roundF a b.l1 t).cs) := by kernel_rfl
theorem half_round2 (a b : Fp) (t : L7) : roundT E2 100 hBody (hSt a b 2 t.cs) hCut = .leaf (.normal, hSt a b 3 (roundF a b.l2 t).cs) := by kernel_rfl
theorem half_round3 (a b : Fp) (t : L7) : roundT E2 100 hBody (hSt a b 3 t.cs) hCut = .leaf (.normal, hSt a b 4 (roundF a b.l3 t).cs) := by kernel_rfl
theorem half_round4 (a b : Fp) (t : L7) : roundT E2 100 hBody (hSt a b 4 t.cs) hCut = .leaf (.normal, hSt a b 5 (roundF a b.l4 t).cs) := by kernel_rfl
theorem half_round5 (a b : Fp) (t : L7) : roundT E2 100 hBody (hSt a b 5 t.cs) hCut = .leaf (.normal, hSt a b 6 (roundF a b.l5 t).cs) := by kernel_rfl
theorem half_out (a b : Fp) (t : L7) : roundT E2 100 hBody (hSt a b 6 t.cs) hCut = .leaf (.exit 0, hSt a b 6 t.cs) := by kernel_rfl
theorem half_fin (a b : Fp) (t : L7) : finT E2 (kRow Fp).rs 100 Try.f46 (hCode.drop 5) (hSt a b 6 t.cs) = .leaf (some (lessF t.low t.t6)) := by kernel_rfl
theorem half_split : hCode.drop 4 = .block 0 (.loop hBody) :: hCode.drop 5 := by kernel_rfl

def hInv (a b : Fp) (k : Fin 7) : St :=
  match k with
  | 0 => hSt a b 0 (zeros 7)
  | 1 => hSt a b 1 (half1 a b).cs
  | 2 => hSt a b 2 (half2 a b).cs
  | 3 => hSt a b 3 (half3 a b).cs
  | 4 => hSt a b 4 (half4 a b).cs
  | 5 => hSt a b 5 (half5 a b).cs
  | 6 => hSt a b 6 (halfT a b).cs

theorem half_ok : CallOk Try.prog 46 (K2 (kRow Fp).arg (kRow Fp).arg (kRow Fp).rs.res halfF) := by
  refine Q2 (E := E2) Try.func46 (c := codeOf Try.f46) (by kernel_rfl) (bodied Try.func46 (by kernel_rfl) (by kernel_rfl)) (kRow Fp) (kRow Fp) (kRow Fp).rs halfF fun a b => ?_
  refine DoesL.stageTo E2_ok 100 4 [2, 3, 4, 5, 6, 18] [0, 1, 2, 3, 4] (half_start a b) ?_
  refine DoesL.blockLoop half_split (hInv a b) (fun k => 6 - k.1) 0 fun k => ?_
  match k with
  | 0 => exact Does.round E2_ok 100 hCut (half_round0 a b) ⟨1, by decide, by simp only [hInv, half1]⟩
  | 1 => exact Does.round E2_ok 100 hCut (half_round1 a b _) ⟨2, by decide, by simp only [hInv, half2]⟩
  | 2 => exact Does.round E2_ok 100 hCut (half_round2 a b _) ⟨3, by decide, by simp only [hInv, half3]⟩
  | 3 => exact Does.round E2_ok 100 hCut (half_round3 a b _) ⟨4, by decide, by simp only [hInv, half4]⟩
  | 4 => exact Does.round E2_ok 100 hCut (half_round4 a b _) ⟨5, by decide, by simp only [hInv, half5]⟩
  | 5 => exact Does.round E2_ok 100 hCut (half_round5 a b _) ⟨6, by decide, by simp only [hInv, halfT]⟩
  | 6 => exact Does.round E2_ok 100 hCut (half_out a b _) ⟨rfl, DoesL.fin E2_ok 100 (half_fin a b _) (Tree.sat_leaf (by simp only [halfF]))⟩

end Go.Proofs.Ytfkmooldindfjaa
