/- Parts Fa, Fb, Fc, Fd, Fe, Ff, Fg, Fh, Fi, joined. -/
import Derived.Test.YtchlamfdofpolaaEC
import Derived.Test.YtchlamfdofpolaaRows
import Derived.Test.YtchlamfdofpolaaED
import Derived.IntWalk
/- The base field's functions, part a: its numbers as rows of cells; a table of what is called. -/
set_option linter.unusedSimpArgs false
set_option linter.unusedVariables false
namespace Go.Proofs.Ytchlamfdofpolaa
open Go.RowKit

theorem bodied {f : Nat} {fn : Func} (h : Try.prog.funcs[f]? = some fn) (h1 : fn.body.isSome = true) (h2 : (fn.name == "runtime.NumGoroutine") = false) : Bodied Try.prog f := ⟨fn, h, h1, h2⟩

theorem follows_mixed : Try.prog.follows .mixedOrders = true := by kernel_rfl

theorem okv_row {α : Type} [Row α] (x : α) (h : Heap) : okv h (rowA x) := fun c hc => okc_none (Row.cs_id x c hc)
theorem okv_u64 (x : UInt64) (h : Heap) : okv h (.one (.c (.u64 x))) := okc_none rfl

theorem add64_ok : CallOk Try.prog 123 (K3x addS addC) := Kadd_ok Try.func123 (by kernel_rfl) (by kernel_rfl) (by kernel_rfl) (by kernel_rfl)
theorem sub64_ok : CallOk Try.prog 137 (K3x subS subB) := Ksub_ok Try.func137 (by kernel_rfl) (by kernel_rfl) (by kernel_rfl) (by kernel_rfl)

noncomputable def T0 : Table := [(123, K3x addS addC), (137, K3x subS subB)]
theorem T0_ok : TableOk Try.prog T0 := .cons add64_ok (.cons sub64_ok .nil)

/-- The modulus. -/
def pLimbs : Fp := ⟨0xb9feffffffffaaab, 0x1eabfffeb153ffff, 0x6730d2a0f6b0f624, 0x64774b84f38512bf, 0x4b1ba7b6434bacd7, 0x1a0111ea397fe69a⟩

noncomputable def E0 : Env := mkEnv Try.prog T0 []
theorem E0_ok : EnvOk E0 := mkEnv_ok follows_mixed T0_ok

theorem modulus_ok : CallOk Try.prog 114 (K0 (kRow Fp).rs.res pLimbs) := P0 E0_ok Try.func114 (bodied Try.func114 (by kernel_rfl) (by kernel_rfl)) 100 (kRow Fp).rs pLimbs (T := .leaf (some pLimbs)) (by kernel_rfl) rfl

noncomputable def T1 : Table := (114, K0 (kRow Fp).rs.res pLimbs) :: T0
theorem T1_ok : TableOk Try.prog T1 := .cons modulus_ok T0_ok
noncomputable def E1 : Env := mkEnv Try.prog T1 []
theorem E1_ok : EnvOk E1 := mkEnv_ok follows_mixed T1_ok

def lessT (a : Fp) : Fp × Bool :=
  let c0 := subB a.l0 pLimbs.l0 false
  let c1 := subB a.l1 pLimbs.l1 c0
  let c2 := subB a.l2 pLimbs.l2 c1
  let c3 := subB a.l3 pLimbs.l3 c2
  let c4 := subB a.l4 pLimbs.l4 c3
  (⟨subS a.l0 pLimbs.l0 false, subS a.l1 pLimbs.l1 c0, subS a.l2 pLimbs.l2 c1, subS a.l3 pLimbs.l3 c2, subS a.l4 pLimbs.l4 c3, subS a.l5 pLimbs.l5 c4⟩, subB a.l5 pLimbs.l5 c4)

def lessF (a : Fp) (over : UInt64) : Fp := match decide (over < b2u (lessT a).2) with | true => a | false => (lessT a).1

theorem less_ok : CallOk Try.prog 136 (K2 (kRow Fp).arg kU64.arg (kRow Fp).rs.res lessF) :=
  P2 E1_ok Try.func136 (bodied Try.func136 (by kernel_rfl) (by kernel_rfl)) 100 (kRow Fp) kU64 (kRow Fp).rs lessF
    (T := fun a o => .br (decide (o < b2u (lessT a).2)) (.leaf (some a)) (.leaf (some (lessT a).1))) (by intro a o; kernel_rfl)
    (by intro a o; exact ⟨fun h => congrArg some (by unfold lessF; rw [h]), fun h => congrArg some (by unfold lessF; rw [h])⟩)

end Go.Proofs.Ytchlamfdofpolaa

/- The base field's functions, part b: products of limbs. -/
set_option linter.unusedSimpArgs false
set_option linter.unusedVariables false
namespace Go.Proofs.Ytchlamfdofpolaa
open Go.RowKit

def mulHi (x y : UInt64) : UInt64 :=
  let t := shrU x 32 * (y &&& 4294967295) + shrU ((x &&& 4294967295) * (y &&& 4294967295)) 32
  shrU x 32 * shrU y 32 + shrU t 32 + shrU ((t &&& 4294967295) + (x &&& 4294967295) * shrU y 32) 32

theorem mul64_ok : CallOk Try.prog 125 (K2 kU64.arg kU64.arg (kU64.rs2 kU64).res fun x y => (mulHi x y, x * y)) :=
  P2 E0_ok Try.func125 (bodied Try.func125 (by kernel_rfl) (by kernel_rfl)) 100 kU64 kU64 (kU64.rs2 kU64) (fun x y => (mulHi x y, x * y))
    (T := fun x y => .leaf (some (mulHi x y, x * y))) (by intro x y; kernel_rfl) (fun _ _ => rfl)

theorem shrU32_nat (x : UInt64) : (shrU x 32).toNat = x.toNat / 4294967296 := by
  have := x.toNat_lt
  unfold shrU
  rw [show (min (Int.toNat 32) 64) = 32 from rfl, UInt64.toNat_ofNat']
  omega

theorem and32_nat (x : UInt64) : (x &&& 4294967295).toNat = x.toNat % 4294967296 := by
  rw [UInt64.toNat_and]
  exact Nat.and_two_pow_sub_one_eq_mod x.toNat 32

theorem mulHi_nat (x y : UInt64) : (mulHi x y).toNat = x.toNat * y.toNat / 18446744073709551616 := by
  have hx := x.toNat_lt
  have hy := y.toNat_lt
  have h1 : x.toNat = 4294967296 * (x.toNat / 4294967296) + x.toNat % 4294967296 := by omega
  have h2 : y.toNat = 4294967296 * (y.toNat / 4294967296) + y.toNat % 4294967296 := by omega
  have b0 : x.toNat % 4294967296 ≤ 4294967295 := by omega
  have b1 : x.toNat / 4294967296 ≤ 4294967295 := by omega
  have c0 : y.toNat % 4294967296 ≤ 4294967295 := by omega
  have c1 : y.toNat / 4294967296 ≤ 4294967295 := by omega
  unfold mulHi
  simp only [UInt64.toNat_add, UInt64.toNat_mul, shrU32_nat, and32_nat]
  generalize hx0 : x.toNat % 4294967296 = x0 at *
  generalize hx1 : x.toNat / 4294967296 = x1 at *
  generalize hy0 : y.toNat % 4294967296 = y0 at *
  generalize hy1 : y.toNat / 4294967296 = y1 at *
  have p00 : x0 * y0 ≤ 4294967295 * 4294967295 := Nat.mul_le_mul b0 c0
  have p01 : x0 * y1 ≤ 4294967295 * 4294967295 := Nat.mul_le_mul b0 c1
  have p10 : x1 * y0 ≤ 4294967295 * 4294967295 := Nat.mul_le_mul b1 c0
  have p11 : x1 * y1 ≤ 4294967295 * 4294967295 := Nat.mul_le_mul b1 c1
  have e : x.toNat * y.toNat = 18446744073709551616 * (x1 * y1) + 4294967296 * (x1 * y0) + 4294967296 * (x0 * y1) + x0 * y0 := by
    rw [h1, h2]
    simp only [Nat.mul_add, Nat.add_mul]
    have q1 : 4294967296 * x1 * (4294967296 * y1) = 18446744073709551616 * (x1 * y1) := by
      rw [Nat.mul_mul_mul_comm]
    have q2 : 4294967296 * x1 * y0 = 4294967296 * (x1 * y0) := Nat.mul_assoc _ _ _
    have q3 : x0 * (4294967296 * y1) = 4294967296 * (x0 * y1) := by rw [Nat.mul_left_comm]
    omega
  rw [e]
  generalize x0 * y0 = p at *
  generalize x0 * y1 = q at *
  generalize x1 * y0 = r at *
  generalize x1 * y1 = s at *
  omega

/-- A product, a limb and a carry: the low limb. -/
def macL (x y t c : UInt64) : UInt64 := addS (addS (x * y) t false) c false
def macH (x y t c : UInt64) : UInt64 := mulHi x y + b2u (addC (x * y) t false) + b2u (addC (addS (x * y) t false) c false)

theorem mac_nat (x y t c : UInt64) : (macH x y t c).toNat * 18446744073709551616 + (macL x y t c).toNat = x.toNat * y.toNat + t.toNat + c.toNat := by
  have hx := x.toNat_lt
  have hy := y.toNat_lt
  have ht := t.toNat_lt
  have hc := c.toNat_lt
  have hp : x.toNat * y.toNat ≤ 18446744073709551615 * 18446744073709551615 := Nat.mul_le_mul (by omega) (by omega)
  unfold macH macL
  simp only [UInt64.toNat_add, b2u_nat, addS_nat, addC_nat, mulHi_nat, UInt64.toNat_mul, Bool.toNat_false]
  generalize x.toNat * y.toNat = p at *
  omega

end Go.Proofs.Ytchlamfdofpolaa

/- The base field's functions, part c: Montgomery's product. -/
set_option linter.unusedSimpArgs false
set_option linter.unusedVariables false
namespace Go.Proofs.Ytchlamfdofpolaa
open Go.RowKit

noncomputable def T2 : Table := (136, K2 (kRow Fp).arg kU64.arg (kRow Fp).rs.res lessF) :: (125, K2 kU64.arg kU64.arg (kU64.rs2 kU64).res fun x y => (mulHi x y, x * y)) :: T1
theorem T2_ok : TableOk Try.prog T2 := .cons less_ok (.cons mul64_ok T1_ok)
noncomputable def E2 : Env := mkEnv Try.prog T2 []
theorem E2_ok : EnvOk E2 := mkEnv_ok follows_mixed T2_ok

/-- Seven limbs. -/
structure L7 where
  t0 : UInt64
  t1 : UInt64
  t2 : UInt64
  t3 : UInt64
  t4 : UInt64
  t5 : UInt64
  t6 : UInt64

def pInv : UInt64 := 0x89f3fffcfffcfffd

/-- The lower half of a round: a multiple of the modulus, and a limb less. -/
def roundB (t0 t1 t2 t3 t4 t5 top : UInt64) (more : Bool) : L7 :=
  let x := t0 * pInv
  let d0 := mulHi x pLimbs.l0 + b2u (addC (x * pLimbs.l0) t0 false)
  let d1 := macH x pLimbs.l1 t1 d0
  let d2 := macH x pLimbs.l2 t2 d1
  let d3 := macH x pLimbs.l3 t3 d2
  let d4 := macH x pLimbs.l4 t4 d3
  let d5 := macH x pLimbs.l5 t5 d4
  ⟨macL x pLimbs.l1 t1 d0, macL x pLimbs.l2 t2 d1, macL x pLimbs.l3 t3 d2, macL x pLimbs.l4 t4 d3, macL x pLimbs.l5 t5 d4, addS top d5 false, b2u more + b2u (addC top d5 false)⟩

def roundF (a : Fp) (b : UInt64) (t : L7) : L7 :=
  let c0 := macH a.l0 b t.t0 0
  let c1 := macH a.l1 b t.t1 c0
  let c2 := macH a.l2 b t.t2 c1
  let c3 := macH a.l3 b t.t3 c2
  let c4 := macH a.l4 b t.t4 c3
  let c5 := macH a.l5 b t.t5 c4
  roundB (macL a.l0 b t.t0 0) (macL a.l1 b t.t1 c0) (macL a.l2 b t.t2 c1) (macL a.l3 b t.t3 c2) (macL a.l4 b t.t4 c3) (macL a.l5 b t.t5 c4) (addS t.t6 c5 false) (addC t.t6 c5 false)

def half1 (a b : Fp) : L7 := roundF a b.l0 ⟨0, 0, 0, 0, 0, 0, 0⟩
def half2 (a b : Fp) : L7 := roundF a b.l1 (half1 a b)
def half3 (a b : Fp) : L7 := roundF a b.l2 (half2 a b)
def half4 (a b : Fp) : L7 := roundF a b.l3 (half3 a b)
def half5 (a b : Fp) : L7 := roundF a b.l4 (half4 a b)
def halfT (a b : Fp) : L7 := roundF a b.l5 (half5 a b)
def L7.low (t : L7) : Fp := ⟨t.t0, t.t1, t.t2, t.t3, t.t4, t.t5⟩
def halfF (a b : Fp) : Fp := lessF (halfT a b).low (halfT a b).t6

/-! the walk -/

def ptrV (n : Nat) : AV := .one (.c (.ptr n 0))
def litV (n : Nat) : AV := .one (.c (.lit .i64 n))
def own (ty : TypeId) (cs : List Cell) : HE := .live ⟨true, ty, 0, .row cs, false⟩
def L7.cs (t : L7) : List Cell := [.u64 t.t0, .u64 t.t1, .u64 t.t2, .u64 t.t3, .u64 t.t4, .u64 t.t5, .u64 t.t6]
def zeros (n : Nat) : List Cell := List.replicate n (.lit .u64 0)

def hSt (a b : Fp) (k : Nat) (t : List Cell) : St :=
  mkSt 139 [(2, ptrV 0), (3, ptrV 1), (4, ptrV 2), (5, ptrV 3), (6, ptrV 4), (18, litV k)] [own 28 (Row.cs a), own 28 (Row.cs b), own 28 (zeros 6), own 28 (Row.cs pLimbs), own 133 t]

def hCut : X → Option (List Nat × List Nat) := same [2, 3, 4, 5, 6, 18] [0, 1, 2, 3, 4]

noncomputable def hCode : List Code := flat (codeOf Try.f102)
noncomputable def hBody : Code := loopAt Try.f102 0

set_option maxRecDepth 100000
theorem half_start (a b : Fp) : stageT E2 100 (hCode.take 4) (startSt Try.f102 [.one ((kRow Fp).av a), .one ((kRow Fp).av b)] []) [2, 3, 4, 5, 6, 18] [0, 1, 2, 3, 4] = .leaf (hSt a b 0 (zeros 7)) := by kernel_rfl
theorem half_round0 (a b : Fp) : roundT E2 100 hBody (hSt a b 0 (zeros 7)) hCut = .leaf (.normal, hSt a b 1 (roundF a b.l0 ⟨0, 0, 0, 0, 0, 0, 0⟩).cs) := by kernel_rfl
theorem half_round1 (a b : Fp) (t : L7) : roundT E2 100 hBody (hSt a b 1 t.cs) hCut = .leaf (.normal, hSt a b 2 (roundF a b.l1 t).cs) := by kernel_rfl
theorem half_round2 (a b : Fp) (t : L7) : roundT E2 100 hBody (hSt a b 2 t.cs) hCut = .leaf (.normal, hSt a b 3 (roundF a b.l2 t).cs) := by kernel_rfl
theorem half_round3 (a b : Fp) (t : L7) : roundT E2 100 hBody (hSt a b 3 t.cs) hCut = .leaf (.normal, hSt a b 4 (roundF a b.l3 t).cs) := by kernel_rfl
theorem half_round4 (a b : Fp) (t : L7) : roundT E2 100 hBody (hSt a b 4 t.cs) hCut = .leaf (.normal, hSt a b 5 (roundF a b.l4 t).cs) := by kernel_rfl
theorem half_round5 (a b : Fp) (t : L7) : roundT E2 100 hBody (hSt a b 5 t.cs) hCut = .leaf (.normal, hSt a b 6 (roundF a b.l5 t).cs) := by kernel_rfl
theorem half_out (a b : Fp) (t : L7) : roundT E2 100 hBody (hSt a b 6 t.cs) hCut = .leaf (.exit 0, hSt a b 6 t.cs) := by kernel_rfl
theorem half_fin (a b : Fp) (t : L7) : finT E2 (kRow Fp).rs 100 Try.f102 (hCode.drop 5) (hSt a b 6 t.cs) = .leaf (some (lessF t.low t.t6)) := by kernel_rfl
theorem half_split : hCode.drop 4 = .block 0 (.loop hBody) :: hCode.drop 5 := by kernel_rfl

def hInv (a b : Fp) (k : Fin 7) : St :=
  match k with
  | 0 => hSt a b 0 (zeros 7)
  | 1 => hSt a b 1 (half1 a b).cs
  | 2 => hSt a b 2 (half2 a b).cs
  | 3 => hSt a b 3 (half3 a b).cs
  | 4 => hSt a b 4 (half4 a b).cs
  | 5 => hSt a b 5 (half5 a b).cs
  | 6 => hSt a b 6 (halfT a b).cs

theorem half_ok : CallOk Try.prog 102 (K2 (kRow Fp).arg (kRow Fp).arg (kRow Fp).rs.res halfF) := by
  refine Q2 (E := E2) Try.func102 (c := codeOf Try.f102) (by kernel_rfl) (bodied Try.func102 (by kernel_rfl) (by kernel_rfl)) (kRow Fp) (kRow Fp) (kRow Fp).rs halfF fun a b => ?_
  refine DoesL.stageTo E2_ok 100 4 [2, 3, 4, 5, 6, 18] [0, 1, 2, 3, 4] (half_start a b) ?_
  refine DoesL.blockLoop half_split (hInv a b) (fun k => 6 - k.1) 0 fun k => ?_
  match k with
  | 0 => exact Does.round E2_ok 100 hCut (half_round0 a b) ⟨1, by decide, by simp only [hInv, half1]⟩
  | 1 => exact Does.round E2_ok 100 hCut (half_round1 a b _) ⟨2, by decide, by simp only [hInv, half2]⟩
  | 2 => exact Does.round E2_ok 100 hCut (half_round2 a b _) ⟨3, by decide, by simp only [hInv, half3]⟩
  | 3 => exact Does.round E2_ok 100 hCut (half_round3 a b _) ⟨4, by decide, by simp only [hInv, half4]⟩
  | 4 => exact Does.round E2_ok 100 hCut (half_round4 a b _) ⟨5, by decide, by simp only [hInv, half5]⟩
  | 5 => exact Does.round E2_ok 100 hCut (half_round5 a b _) ⟨6, by decide, by simp only [hInv, halfT]⟩
  | 6 => exact Does.round E2_ok 100 hCut (half_out a b _) ⟨rfl, DoesL.fin E2_ok 100 (half_fin a b _) (Tree.sat_leaf (by simp only [halfF]))⟩

end Go.Proofs.Ytchlamfdofpolaa

/- The base field's functions, part d: sums, differences, products. -/
set_option linter.unusedSimpArgs false
set_option linter.unusedVariables false
namespace Go.Proofs.Ytchlamfdofpolaa
open Go.RowKit

abbrev Kc (x : Fp) : Contract := K0 (kRow Fp).rs.res x
abbrev Kf (F : Fp → Fp) : Contract := K1 (kRow Fp).arg (kRow Fp).rs.res F
abbrev Kff (F : Fp → Fp → Fp) : Contract := K2 (kRow Fp).arg (kRow Fp).arg (kRow Fp).rs.res F
/-- The program with contracts of what is called. -/
noncomputable abbrev En (T : Table) : Env := mkEnv Try.prog T []
theorem En_ok {T : Table} (h : TableOk Try.prog T) : EnvOk (En T) := mkEnv_ok follows_mixed h

abbrev vF (a : Fp) : AV := .one ((kRow Fp).av a)
abbrev vU (a : UInt64) : AV := .one (kU64.av a)
abbrev rF : Rs Fp := (kRow Fp).rs

/-- (2^64)^12, modulo the modulus. -/
def sqLimbs : Fp := ⟨0xf4df1f341c341746, 0x0a76e6a609d104f1, 0x8de5476c4c95b6d5, 0x67eb88a9939d83c0, 0x9a793e85b519952d, 0x11988fe592cae3aa⟩

theorem square_ok : CallOk Try.prog 138 (Kc sqLimbs) := P0 E0_ok Try.func138 (bodied Try.func138 (by kernel_rfl) (by kernel_rfl)) 100 rF sqLimbs (T := .leaf (some sqLimbs)) (by kernel_rfl) rfl

def wholeF (a : Fp) : Fp := halfF a sqLimbs
def oneFp : Fp := ⟨1, 0, 0, 0, 0, 0⟩
def zeroFp : Fp := ⟨0, 0, 0, 0, 0, 0⟩
def lowF (a : Fp) : Fp := halfF a oneFp

theorem whole_run (hF : Fp → Fp → Fp) (q a : Fp) : plainRun (En [(102, Kff hF), (138, Kc q)]) rF 100 Try.f105 [vF a] = .leaf (some (hF a q)) := by kernel_rfl
theorem low_run (hF : Fp → Fp → Fp) (a : Fp) : plainRun (En [(102, Kff hF)]) rF 100 Try.f101 [vF a] = .leaf (some (hF a oneFp)) := by kernel_rfl

theorem whole_ok : CallOk Try.prog 105 (Kf wholeF) := P1 (En_ok (.cons half_ok (.cons square_ok .nil))) Try.func105 (bodied Try.func105 (by kernel_rfl) (by kernel_rfl)) 100 (kRow Fp) rF wholeF (whole_run halfF sqLimbs) (fun _ => Tree.sat_leaf (by simp only [wholeF]))
theorem low_ok : CallOk Try.prog 101 (Kf lowF) := P1 (En_ok (.cons half_ok .nil)) Try.func101 (bodied Try.func101 (by kernel_rfl) (by kernel_rfl)) 100 (kRow Fp) rF lowF (low_run halfF) (fun _ => Tree.sat_leaf (by simp only [lowF]))

/-- A sum, and its carry. -/
def addT (a b : Fp) : Fp × Bool :=
  let c0 := addC a.l0 b.l0 false
  let c1 := addC a.l1 b.l1 c0
  let c2 := addC a.l2 b.l2 c1
  let c3 := addC a.l3 b.l3 c2
  let c4 := addC a.l4 b.l4 c3
  (⟨addS a.l0 b.l0 false, addS a.l1 b.l1 c0, addS a.l2 b.l2 c1, addS a.l3 b.l3 c2, addS a.l4 b.l4 c3, addS a.l5 b.l5 c4⟩, addC a.l5 b.l5 c4)
def addF (a b : Fp) : Fp := lessF (addT a b).1 (b2u (addT a b).2)

theorem add_run (lF : Fp → UInt64 → Fp) (a b : Fp) : plainRun (En [(123, K3x addS addC), (136, K2 (kRow Fp).arg kU64.arg rF.res lF)]) rF 100 Try.f104 [vF a, vF b] = .leaf (some (lF (addT a b).1 (b2u (addT a b).2))) := by kernel_rfl
theorem add_ok : CallOk Try.prog 104 (Kff addF) := P2 (En_ok (.cons add64_ok (.cons less_ok .nil))) Try.func104 (bodied Try.func104 (by kernel_rfl) (by kernel_rfl)) 100 (kRow Fp) (kRow Fp) rF addF (add_run lessF) (fun _ _ => Tree.sat_leaf (by simp only [addF]))

/-- A difference, and its borrow. -/
def subT (a b : Fp) : Fp × Bool :=
  let c0 := subB a.l0 b.l0 false
  let c1 := subB a.l1 b.l1 c0
  let c2 := subB a.l2 b.l2 c1
  let c3 := subB a.l3 b.l3 c2
  let c4 := subB a.l4 b.l4 c3
  (⟨subS a.l0 b.l0 false, subS a.l1 b.l1 c0, subS a.l2 b.l2 c1, subS a.l3 b.l3 c2, subS a.l4 b.l4 c3, subS a.l5 b.l5 c4⟩, subB a.l5 b.l5 c4)
def subF (a b : Fp) : Fp := match decide (b2u (subT a b).2 = 0) with | true => (subT a b).1 | false => (addT (subT a b).1 pLimbs).1

theorem sub_run (a b : Fp) : plainRun E1 rF 100 Try.f103 [vF a, vF b] = .br (decide (b2u (subT a b).2 = 0)) (.leaf (some (subT a b).1)) (.leaf (some (addT (subT a b).1 pLimbs).1)) := by kernel_rfl
theorem sub_ok : CallOk Try.prog 103 (Kff subF) := P2 E1_ok Try.func103 (bodied Try.func103 (by kernel_rfl) (by kernel_rfl)) 100 (kRow Fp) (kRow Fp) rF subF sub_run
  (by intro a b; exact ⟨fun h => congrArg some (by unfold subF; rw [h]), fun h => congrArg some (by unfold subF; rw [h])⟩)

def negF (a : Fp) : Fp := subF zeroFp a
def mulF (a b : Fp) : Fp := wholeF (halfF a b)
def ofF (n : UInt64) : Fp := ⟨n, 0, 0, 0, 0, 0⟩

theorem neg_run (sF : Fp → Fp → Fp) (a : Fp) : plainRun (En [(103, Kff sF)]) rF 100 Try.f61 [vF a] = .leaf (some (sF zeroFp a)) := by kernel_rfl
theorem neg_ok : CallOk Try.prog 61 (Kf negF) := P1 (En_ok (.cons sub_ok .nil)) Try.func61 (bodied Try.func61 (by kernel_rfl) (by kernel_rfl)) 100 (kRow Fp) rF negF (neg_run subF) (fun _ => Tree.sat_leaf (by simp only [negF]))
theorem mul_run (hF : Fp → Fp → Fp) (wF : Fp → Fp) (a b : Fp) : plainRun (En [(102, Kff hF), (105, Kf wF)]) rF 100 Try.f66 [vF a, vF b] = .leaf (some (wF (hF a b))) := by kernel_rfl
theorem mul_ok : CallOk Try.prog 66 (Kff mulF) := P2 (En_ok (.cons half_ok (.cons whole_ok .nil))) Try.func66 (bodied Try.func66 (by kernel_rfl) (by kernel_rfl)) 100 (kRow Fp) (kRow Fp) rF mulF (mul_run halfF wholeF) (fun _ _ => Tree.sat_leaf (by simp only [mulF]))
end Go.Proofs.Ytchlamfdofpolaa

/- The base field's functions, part e: limbs of slices, comparisons. -/
set_option linter.unusedSimpArgs false
set_option linter.unusedVariables false
namespace Go.Proofs.Ytchlamfdofpolaa
open Go.RowKit

/-- A number that is not below 0. -/
def argNat : Arg Nat where
  rd := fun _ v => match v with
    | .one (.c (.lit .i64 n)) => match decide (0 ≤ n) with
      | true => some (n.toNat, .t, [])
      | false => none
    | .one (.c (.int .i64 n)) => some (n.toNat, .p (0 ≤ n), [])
    | _ => none
  is := fun _ v x => v = .int .i64 (x : Int)
  ok := fun {w0 β h w v x p rs} e hp _ _ => by
    split at e
    · split at e
      · rename_i hd
        cases e
        simp only [decide_eq_true_eq] at hd
        simp only [gv, g1, gc]
        congr 1
        omega
      · cases e
    · cases e
      have : (0 : Int) ≤ _ := hp
      simp only [gv, g1, gc]
      congr 1
      omega
    · cases e
  near := fun e _ => e

def inpNat : Inp Nat where
  arg := argNat
  av := fun _ x => .one (.c (.int .i64 (x : Int)))
  hes := fun _ => []
  fact := fun _ => True
  known := fun _ => trivial
  intro := fun {w0 β heap w v x} hr _ hv => ⟨β, by rw [List.append_nil]; exact hr, hv.symm, okc_none rfl, fun _ _ => rfl⟩

abbrev oU : Out UInt64 := kU64.rs.out
abbrev iL : Inp (List UInt64) := inpSl eU64
abbrev aL : Arg (List UInt64) := argSl eU64

def atF (xs : List UInt64) (i : Nat) : UInt64 := xs.getD i 0

theorem at_run (xs : List UInt64) (i : Nat) : endT (En []) oU 100 Try.f141 (flat (codeOf Try.f141)) (startSt Try.f141 [iL.av 0 xs, inpNat.av 1 i] [inHE eU64 xs]) =
    .vc (0 + xs.length * 1 ≤ (eU64.body xs).cells.length ∧ 0 < 1) (.br (decide ((i : Int) < (xs.length : Int))) (.vc ((0 ≤ (i : Int) ∧ (i : Int) < (xs.length : Int)) ∧ (0 + xs.length * 1 ≤ (eU64.body xs).cells.length ∧ 0 < 1)) (.vc (0 + (i : Int).toNat * 1 < xs.length) (.leaf (some (xs.getD (0 + (i : Int).toNat * 1) 0, .t)))))
      (.leaf (some (0, .t)))) := by kernel_rfl

theorem at_ok : CallOk Try.prog 141 (K2 aL argNat kU64.rs.res atF) :=
  G2 (E := En []) Try.func141 (c := codeOf Try.f141) (by kernel_rfl) (bodied Try.func141 (by kernel_rfl) (by kernel_rfl)) iL inpNat oU atF fun xs i _ _ => by
    refine DoesL.ends (En_ok .nil) 100 (at_run xs i) ⟨⟨by rw [eU64.cells_len]; omega, by decide⟩, fun _ => ⟨fun h => ?_, fun h => ?_⟩⟩
    · simp only [decide_eq_true_eq] at h
      refine ⟨⟨⟨by omega, h⟩, by rw [eU64.cells_len]; omega, by decide⟩, fun _ => ⟨by omega, fun _ => ⟨.t, ?_, trivial⟩⟩⟩
      simp [atF]
    · simp only [decide_eq_false_iff_not] at h
      refine ⟨.t, ?_, trivial⟩
      have : xs.length ≤ i := by omega
      simp [atF, List.getElem?_eq_none this]

def scopeAt : Code → Option Code
  | .scope a => some a
  | .seq a b => match scopeAt a with | some c => some c | none => scopeAt b
  | .block _ a => scopeAt a
  | _ => none
/-- The body of a function's first scope, and what is behind its first label. -/
def scopeOf (fn : Func) : Code := match scopeAt (codeOf fn) with | some c => c | none => .skip
def restOf (fn : Func) : Code := match findLabel (scopeOf fn) 0 with | some c => c | none => .skip

abbrev vI (z : Int) : AV := .one (.c (.int .i64 z))
abbrev oI : Out Int := kInt.rs.out
/-- That a whole slice is one that a call takes. -/
abbrev okL (xs : List UInt64) : Prop := 0 + xs.length ≤ xs.length ∧ xs.length < topLen ∧ RC.fits (.of 0) 0 xs.length 1 1

def cmpSt (xs ys : List UInt64) (z : Int) : St := mkSt 31 [(0, inV 0 xs), (1, inV 1 ys), (5, vI z)] [inHE eU64 xs, inHE eU64 ys]

def maxI (xs ys : List UInt64) : Int := if (ys.length : Int) > xs.length then ys.length else xs.length

theorem cmp_front (T : Table) (xs ys : List UInt64) : stageT (En T) 100 ((flat (codeOf Try.f115)).take 1) (startSt Try.f115 [iL.av 0 xs, iL.av 1 ys] [inHE eU64 xs, inHE eU64 ys]) [0, 1] [0, 1] =
    .leaf (mkSt 31 [(0, inV 0 xs), (1, inV 1 ys)] [inHE eU64 xs, inHE eU64 ys]) := by kernel_rfl
theorem cmp_start (T : Table) (xs ys : List UInt64) : stageT (En T) 100 ((flat (scopeOf Try.f115)).take 2) (mkSt 31 [(0, inV 0 xs), (1, inV 1 ys)] [inHE eU64 xs, inHE eU64 ys]) [0, 1, 5] [0, 1] =
    .vc (0 + xs.length * 1 ≤ (eU64.body xs).cells.length ∧ 0 < 1) (.vc (0 + ys.length * 1 ≤ (eU64.body ys).cells.length ∧ 0 < 1) (.leaf (cmpSt xs ys (maxI xs ys)))) := by kernel_rfl

theorem cmp_iter (aF : List UInt64 → Nat → UInt64) (xs ys : List UInt64) (z : Int) : iterT (En [(141, K2 aL argNat kU64.rs.res aF)]) oI 100 Try.f115 ((flat (scopeOf Try.f115)).drop 2) (cmpSt xs ys z) [0, 1, 5] [0, 1] =
    .br (decide (IntKind.i64.wrap (z - 1) < 0)) (.leaf (.inr (some (0, .t))))
      (.vc (okL xs ∧ 0 ≤ IntKind.i64.wrap (z - 1)) (.vc (okL ys ∧ 0 ≤ IntKind.i64.wrap (z - 1))
        (.br (decide (aF ((xs.drop 0).take xs.length) (IntKind.i64.wrap (z - 1)).toNat < aF ((ys.drop 0).take ys.length) (IntKind.i64.wrap (z - 1)).toNat)) (.leaf (.inr (some (-1, .t))))
          (.br (decide (aF ((xs.drop 0).take xs.length) (IntKind.i64.wrap (z - 1)).toNat > aF ((ys.drop 0).take ys.length) (IntKind.i64.wrap (z - 1)).toNat)) (.leaf (.inr (some (1, .t))))
            (.leaf (.inl (.goto 0, cmpSt xs ys (IntKind.i64.wrap (z - 1))))))))) := by kernel_rfl

/-- The comparison of the limbs below n, from the top. -/
def cmpAt (xs ys : List UInt64) : Nat → Int
  | 0 => 0
  | n + 1 => if atF xs n < atF ys n then -1 else if atF xs n > atF ys n then 1 else cmpAt xs ys n
def cmpF (xs ys : List UInt64) : Int := cmpAt xs ys (maxI xs ys).toNat

theorem cells_len (xs : List UInt64) : (eU64.body xs).cells.length = xs.length := eU64.cells_len xs
theorem okL_of {xs : List UInt64} (h : xs.length < topLen) : okL xs := ⟨by omega, h, by simp [RC.fits]⟩

abbrev CmpOk (xs ys : List UInt64) : Type := { z : Int // 0 ≤ z ∧ z < topLen ∧ cmpAt xs ys z.toNat = cmpF xs ys }
def cmpI (xs ys : List UInt64) (z : CmpOk xs ys) : St := cmpSt xs ys z.1

theorem cmp_ok : CallOk Try.prog 115 (K2 aL aL kInt.rs.res cmpF) :=
  G2 (E := En [(141, K2 aL argNat kU64.rs.res atF)]) Try.func115 (c := codeOf Try.f115) (by kernel_rfl) (bodied Try.func115 (by kernel_rfl) (by kernel_rfl)) iL iL oI cmpF fun xs ys hx hy => by
    have hE : EnvOk (En [(141, K2 aL argNat kU64.rs.res atF)]) := En_ok (.cons at_ok .nil)
    have hx : xs.length < 1125899906842624 := hx
    have hy : ys.length < 1125899906842624 := hy
    have hm : 0 ≤ maxI xs ys ∧ maxI xs ys < topLen := by unfold maxI topLen; split <;> omega
    refine DoesL.stageE hE 100 1 [0, 1] [0, 1] (cmp_front _ xs ys) ?_
    refine DoesL.scopeFn (body := scopeOf Try.f115) (rest := restOf Try.f115) (tail := []) (l := 0) hE (by kernel_rfl) (by kernel_rfl) 100 2 (by kernel_rfl) [0, 1, 5] [0, 1] (cmpI xs ys) (fun z => z.1.toNat)
      ⟨maxI xs ys, hm.1, hm.2, rfl⟩ (cmp_start _ xs ys) ⟨⟨by rw [cells_len]; omega, by decide⟩, fun _ => ⟨⟨by rw [cells_len]; omega, by decide⟩, fun _ => rfl⟩⟩ fun z => ?_
    · obtain ⟨z, h0, h1, h2⟩ := z
      have h1 : z < 1125899906842624 := h1
      have hw : IntKind.i64.wrap (z - 1) = z - 1 := IntWalk.i64_in _ (by omega)
      refine DoesL.iter hE 100 [0, 1, 5] [0, 1] (cmp_iter atF xs ys z) ?_
      rw [hw]
      simp only [List.drop_zero, List.take_length]
      refine ⟨fun h => ?_, fun h => ⟨⟨okL_of hx, ?_⟩, fun _ => ⟨⟨okL_of hy, ?_⟩, fun _ => ⟨fun h3 => ?_, fun h3 => ⟨fun h4 => ?_, fun h4 => ?_⟩⟩⟩⟩⟩
      · simp only [decide_eq_true_eq] at h
        obtain rfl : z = 0 := by omega
        exact ⟨.t, by rw [← h2]; rfl, trivial⟩
      all_goals simp only [decide_eq_false_iff_not] at h
      · omega
      · omega
      all_goals
        obtain ⟨n, rfl⟩ : ∃ n : Nat, z = (n : Int) + 1 := ⟨(z - 1).toNat, by omega⟩
        rw [show ((n : Int) + 1).toNat = n + 1 by omega] at h2
        rw [show ((n : Int) + 1 - 1).toNat = n by omega] at h3
        simp only [cmpAt] at h2
      · simp only [decide_eq_true_eq] at h3
        rw [if_pos h3] at h2
        exact ⟨.t, by rw [← h2], trivial⟩
      · rw [show ((n : Int) + 1 - 1).toNat = n by omega] at h4
        simp only [decide_eq_false_iff_not] at h3
        simp only [decide_eq_true_eq] at h4
        rw [if_neg h3, if_pos h4] at h2
        exact ⟨.t, by rw [← h2], trivial⟩
      · rw [show ((n : Int) + 1 - 1).toNat = n by omega] at h4
        simp only [decide_eq_false_iff_not] at h3 h4
        rw [if_neg h3, if_neg h4] at h2
        exact ⟨rfl, ⟨(n : Int) + 1 - 1, by omega, by unfold topLen; omega, by rw [show ((n : Int) + 1 - 1).toNat = n by omega]; exact h2⟩, by simp only []; omega, rfl⟩

end Go.Proofs.Ytchlamfdofpolaa

/- The base field's functions, part f: May, Great, powers. -/
set_option linter.unusedSimpArgs false
set_option linter.unusedVariables false
namespace Go.Proofs.Ytchlamfdofpolaa
open Go.RowKit

def Fp.list (a : Fp) : List UInt64 := [a.l0, a.l1, a.l2, a.l3, a.l4, a.l5]

def halvedF (a : Fp) : Fp := ⟨shrU a.l0 1 ||| shlU a.l1 63, shrU a.l1 1 ||| shlU a.l2 63, shrU a.l2 1 ||| shlU a.l3 63, shrU a.l3 1 ||| shlU a.l4 63, shrU a.l4 1 ||| shlU a.l5 63, shrU a.l5 1⟩
abbrev Kcmp (cF : List UInt64 → List UInt64 → Int) : Contract := K2 aL aL kInt.rs.res cF

def mayF (a : Fp) : Bool := decide (cmpF a.list pLimbs.list < 0)
theorem may_run (cF : List UInt64 → List UInt64 → Int) (m a : Fp) : plainRun (En [(115, Kcmp cF), (114, Kc m)]) kBool.rs 100 Try.f65 [vF a] = .leaf (some (decide (cF a.list m.list < 0))) := by kernel_rfl
theorem may_ok : CallOk Try.prog 65 (K1 (kRow Fp).arg kBool.rs.res mayF) := P1 (En_ok (.cons cmp_ok (.cons modulus_ok .nil))) Try.func65 (bodied Try.func65 (by kernel_rfl) (by kernel_rfl)) 100 (kRow Fp) kBool.rs mayF (may_run cmpF pLimbs) (fun _ => Tree.sat_leaf (by simp only [mayF]))

def greatF (a : Fp) : Bool := decide (cmpF a.list (halvedF pLimbs).list > 0)
abbrev oF : Out Fp := rF.out
def powSt (e : List UInt64) (x o : Fp) (z : Int) : St := mkSt 38 [(1, inV 0 e), (4, ptrV 1), (5, ptrV 2), (6, ptrV 3), (7, vI z)] [inHE eU64 e, own 28 (zeros 6), own 28 (Row.cs x), own 28 (Row.cs o)]

def tPow (wF : Fp → Fp) (hF : Fp → Fp → Fp) (lF : Fp → Fp) : Table := [(105, Kf wF), (102, Kff hF), (101, Kf lF)]

theorem pow_front (T : Table) (a : Fp) (e : List UInt64) : stageT (En T) 100 ((flat (codeOf Try.f135)).take 1) (startSt Try.f135 [vF a, iL.av 0 e] [inHE eU64 e]) [1, 2, 4] [0, 1, 2] =
    .leaf (mkSt 38 [(1, inV 0 e), (2, ptrV 1), (4, ptrV 2)] [inHE eU64 e, own 28 (Row.cs a), own 28 (zeros 6)]) := by kernel_rfl
theorem pow_start (hF : Fp → Fp → Fp) (wF lF : Fp → Fp) (a : Fp) (e : List UInt64) : stageT (En (tPow wF hF lF)) 100 ((flat (scopeOf Try.f135)).take 3) (mkSt 38 [(1, inV 0 e), (2, ptrV 1), (4, ptrV 2)] [inHE eU64 e, own 28 (Row.cs a), own 28 (zeros 6)]) [1, 4, 5, 6, 7] [0, 2, 3, 4] =
    .vc (0 + e.length * 1 ≤ (eU64.body e).cells.length ∧ 0 < 1) (.leaf (powSt e (wF a) (wF oneFp) (IntKind.i64.wrap (64 * e.length)))) := by kernel_rfl

def quoZ (z : Int) : Int := IntKind.i64.wrap ((IntKind.i64.wrap (z - 1)).tdiv 64)
def remZ (z : Int) : UInt64 := UInt64.ofNat (((IntKind.i64.wrap (z - 1)).tmod 64) % 18446744073709551616).toNat
def bitZ (e : List UInt64) (z : Int) : Bool := shrU (e.getD (0 + (quoZ z).toNat * 1) 0) ((remZ z).toNat : Int) &&& 1 == 1

theorem pow_iter (hF : Fp → Fp → Fp) (wF lF : Fp → Fp) (x o : Fp) (e : List UInt64) (z : Int) : iterT (En (tPow wF hF lF)) oF 100 Try.f135 ((flat (scopeOf Try.f135)).drop 3) (powSt e x o z) [1, 4, 5, 6, 7] [0, 1, 2, 3] =
    .br (decide (IntKind.i64.wrap (z - 1) < 0)) (.leaf (.inr (some (lF o, .t))))
      (.vc ((0 ≤ quoZ z ∧ quoZ z < e.length) ∧ 0 + e.length * 1 ≤ (eU64.body e).cells.length ∧ 0 < 1) (.vc (0 + (quoZ z).toNat * 1 < e.length)
        (.br (bitZ e z) (.leaf (.inl (.goto 0, powSt e x (hF (hF o o) x) (IntKind.i64.wrap (z - 1))))) (.leaf (.inl (.goto 0, powSt e x (hF o o) (IntKind.i64.wrap (z - 1)))))))) := by kernel_rfl

/-- A bit of a number of limbs. -/
def bitAt (e : List UInt64) (i : Nat) : Bool := (e.getD (i / 64) 0).toNat.testBit (i % 64)

theorem shr_bit (x : UInt64) (k : Nat) (hk : k < 64) : (shrU x (k : Int) &&& 1 == 1) = x.toNat.testBit k := by
  have h1 : (shrU x (k : Int)).toNat = x.toNat / 2 ^ k := by
    have := x.toNat_lt
    unfold shrU
    rw [Int.toNat_natCast, Nat.min_eq_left (by omega), UInt64.toNat_ofNat']
    exact Nat.mod_eq_of_lt (Nat.lt_of_le_of_lt (Nat.div_le_self _ _) this)
  have h2 : (shrU x (k : Int) &&& 1).toNat = x.toNat / 2 ^ k % 2 := by
    rw [UInt64.toNat_and, h1]
    exact Nat.and_one_is_mod _
  rw [Nat.testBit_eq_decide_div_mod_eq]
  rw [← h2]
  have h3 : (shrU x (k : Int) &&& 1 == 1) = decide ((shrU x (k : Int) &&& 1) = 1) := rfl
  rw [h3]
  have : ((shrU x (k : Int) &&& 1) = 1) ↔ (shrU x (k : Int) &&& 1).toNat = 1 := ⟨fun h => by rw [h]; rfl, fun h => UInt64.toNat.inj (by rw [h]; rfl)⟩
  exact decide_eq_decide.2 this

theorem quoZ_nat (n : Nat) (h : n < 576460752303423488) : quoZ ((n : Int) + 1) = ((n / 64 : Nat) : Int) := by
  unfold quoZ
  rw [show (n : Int) + 1 - 1 = n by omega, IntWalk.i64_in (n : Int) (by omega), show ((n : Int)).tdiv 64 = ((n / 64 : Nat) : Int) by rw [Int.tdiv_eq_ediv_of_nonneg (by omega)]; omega, IntWalk.i64_in _ (by omega)]

theorem bitZ_nat (e : List UInt64) (n : Nat) (h : n < 576460752303423488) : bitZ e ((n : Int) + 1) = bitAt e n := by
  unfold bitZ bitAt
  rw [quoZ_nat n h]
  have h1 : (remZ ((n : Int) + 1)).toNat = n % 64 := by
    unfold remZ
    rw [show (n : Int) + 1 - 1 = n by omega, IntWalk.i64_in (n : Int) (by omega), show ((n : Int)).tmod 64 = ((n % 64 : Nat) : Int) by rw [Int.tmod_eq_emod_of_nonneg (by omega)]; omega]
    rw [show (((n % 64 : Nat) : Int) % 18446744073709551616).toNat = n % 64 by omega, UInt64.toNat_ofNat']
    omega
  rw [h1, shr_bit _ _ (by omega)]
  simp only [Nat.zero_add, Nat.mul_one, Int.toNat_natCast]

def powAt (x : Fp) (e : List UInt64) : Nat → Fp → Fp
  | 0, o => lowF o
  | n + 1, o => powAt x e n (match bitAt e n with | true => halfF (halfF o o) x | false => halfF o o)
def powF (a : Fp) (e : List UInt64) : Fp := powAt (wholeF a) e (64 * e.length) (wholeF oneFp)

abbrev PowOk (a : Fp) (e : List UInt64) : Type := { q : Int × Fp // 0 ≤ q.1 ∧ q.1 ≤ 64 * e.length ∧ powAt (wholeF a) e q.1.toNat q.2 = powF a e }
def powI (a : Fp) (e : List UInt64) (q : PowOk a e) : St := powSt e (wholeF a) q.1.2 q.1.1

theorem pow_ok : CallOk Try.prog 135 (K2 (kRow Fp).arg aL rF.res powF) :=
  G2 (E := En (tPow wholeF halfF lowF)) Try.func135 (c := codeOf Try.f135) (by kernel_rfl) (bodied Try.func135 (by kernel_rfl) (by kernel_rfl)) (kRow Fp).inp iL oF powF fun a e _ he => by
    have hE : EnvOk (En (tPow wholeF halfF lowF)) := En_ok (.cons whole_ok (.cons half_ok (.cons low_ok .nil)))
    have he : e.length < 1125899906842624 := he
    have hw : IntKind.i64.wrap (64 * (e.length : Int)) = 64 * (e.length : Int) := IntWalk.i64_in _ (by omega)
    refine DoesL.stageE hE 100 1 [1, 2, 4] [0, 1, 2] (pow_front _ a e) ?_
    refine DoesL.scopeFn (body := scopeOf Try.f135) (rest := restOf Try.f135) (tail := []) (l := 0) hE (by kernel_rfl) (by kernel_rfl) 100 3 (by kernel_rfl) [1, 4, 5, 6, 7] [0, 2, 3, 4] (powI a e) (fun q => q.1.1.toNat)
      ⟨(64 * (e.length : Int), wholeF oneFp), by simp only []; omega, by simp only []; omega, by rw [show ((64 * (e.length : Int), wholeF oneFp) : Int × Fp).1.toNat = 64 * e.length by simp only []; omega]; simp only [powF]⟩
      (pow_start halfF wholeF lowF a e) ⟨⟨by rw [cells_len]; omega, by decide⟩, fun _ => by rw [hw]; exact Tree.sat_leaf (by simp only [powI])⟩ fun q => ?_
    obtain ⟨⟨z, o⟩, h0, h1, h2⟩ := q
    simp only [] at h0 h1 h2
    have hz : IntKind.i64.wrap (z - 1) = z - 1 := IntWalk.i64_in _ (by omega)
    refine DoesL.iter hE 100 [1, 4, 5, 6, 7] [0, 1, 2, 3] (pow_iter halfF wholeF lowF (wholeF a) o e z) ?_
    rw [hz]
    refine ⟨fun h => ?_, fun h => ?_⟩
    · simp only [decide_eq_true_eq] at h
      obtain rfl : z = 0 := by omega
      exact ⟨.t, by rw [← h2]; rfl, trivial⟩
    · simp only [decide_eq_false_iff_not] at h
      obtain ⟨n, rfl⟩ : ∃ n : Nat, z = (n : Int) + 1 := ⟨(z - 1).toNat, by omega⟩
      rw [quoZ_nat n (by omega), bitZ_nat e n (by omega)]
      rw [show ((n : Int) + 1).toNat = n + 1 by omega] at h2
      simp only [powAt] at h2
      refine ⟨⟨⟨by omega, by omega⟩, by rw [cells_len]; omega, by decide⟩, fun _ => ⟨by omega, fun _ => ⟨fun h3 => ?_, fun h3 => ?_⟩⟩⟩
      all_goals
        have hn : ((n : Int) + 1 - 1).toNat = n := by omega
        rw [h3] at h2
        simp only [] at h2
      · refine ⟨rfl, ⟨((n : Int) + 1 - 1, halfF (halfF o o) (wholeF a)), ?_, ?_, ?_⟩, ?_, by simp only [powI]⟩
        · show 0 ≤ (n : Int) + 1 - 1; omega
        · show (n : Int) + 1 - 1 ≤ 64 * e.length; omega
        · simpa only [hn] using h2
        · show ((n : Int) + 1 - 1).toNat < ((n : Int) + 1).toNat; omega
      · refine ⟨rfl, ⟨((n : Int) + 1 - 1, halfF o o), ?_, ?_, ?_⟩, ?_, by simp only [powI]⟩
        · show 0 ≤ (n : Int) + 1 - 1; omega
        · show (n : Int) + 1 - 1 ≤ 64 * e.length; omega
        · simpa only [hn] using h2
        · show ((n : Int) + 1 - 1).toNat < ((n : Int) + 1).toNat; omega

end Go.Proofs.Ytchlamfdofpolaa

/- The base field's functions, part g: inverses and roots. -/
set_option linter.unusedSimpArgs false
set_option linter.unusedVariables false
namespace Go.Proofs.Ytchlamfdofpolaa
open Go.RowKit

abbrev rFI : Rs (Fp × Int) := (kRow Fp).rs2 kInt
abbrev rFB : Rs (Fp × Bool) := (kRow Fp).rs2 kBool
abbrev Kpow (pF : Fp → List UInt64 → Fp) : Contract := K2 (kRow Fp).arg aL rF.res pF

def fpEq (a b : Fp) : Bool := a.l0 == b.l0 && (a.l1 == b.l1 && (a.l2 == b.l2 && (a.l3 == b.l3 && (a.l4 == b.l4 && (a.l5 == b.l5 && true)))))

theorem fpEq_iff (a b : Fp) : fpEq a b = true ↔ a = b := by
  cases a; cases b
  simp [fpEq]

def invF (a : Fp) : Fp × Int := match fpEq a zeroFp with | true => (a, 7) | false => (powF a [pLimbs.l0 - 2, pLimbs.l1, pLimbs.l2, pLimbs.l3, pLimbs.l4, pLimbs.l5], 0)
theorem inv_run (pF : Fp → List UInt64 → Fp) (m a : Fp) : plainRun (En [(114, Kc m), (135, Kpow pF)]) rFI 100 Try.f100 [vF a] =
    .br (fpEq a zeroFp) (.leaf (some (a, 7))) (.leaf (some (pF a [m.l0 - 2, m.l1, m.l2, m.l3, m.l4, m.l5], 0))) := by kernel_rfl
theorem inv_ok : CallOk Try.prog 100 (K1 (kRow Fp).arg rFI.res invF) := P1 (En_ok (.cons modulus_ok (.cons pow_ok .nil))) Try.func100 (bodied Try.func100 (by kernel_rfl) (by kernel_rfl)) 100 (kRow Fp) rFI invF (inv_run powF pLimbs)
  (fun a => ⟨fun h => congrArg some (by simp only [invF, h]), fun h => congrArg some (by simp only [invF, h])⟩)

def rootG (pF : Fp → List UInt64 → Fp) (hF : Fp → Fp) (m a : Fp) : Fp := pF a (hF (hF ⟨m.l0 + 1, m.l1, m.l2, m.l3, m.l4, m.l5⟩)).list
def sqrtG (nF : Fp → Fp) (mF : Fp → Fp → Fp) (gF : Fp → Bool) (x a : Fp) : Fp × Bool := match !(fpEq (mF x x) a) with
  | true => (zeroFp, false)
  | false => match gF x with
    | true => (nF x, true)
    | false => (x, true)
def sqrtT (nF : Fp → Fp) (mF : Fp → Fp → Fp) (gF : Fp → Bool) (x a : Fp) : Tree (Option (Fp × Bool)) := .br (!(fpEq (mF x x) a)) (.leaf (some (zeroFp, false))) (.br (gF x) (.leaf (some (nF x, true))) (.leaf (some (x, true))))

theorem sqrtT_sat (nF : Fp → Fp) (mF : Fp → Fp → Fp) (gF : Fp → Bool) (x a : Fp) : (sqrtT nF mF gF x a).sat fun q => q = some (sqrtG nF mF gF x a) := by
  refine ⟨fun h => ?_, fun h => ⟨fun h2 => ?_, fun h2 => ?_⟩⟩
  · exact congrArg some (by unfold sqrtG; rw [h])
  · exact congrArg some (by unfold sqrtG; rw [h, h2])
  · exact congrArg some (by unfold sqrtG; rw [h, h2])

def rootF (a : Fp) : Fp := rootG powF halvedF pLimbs a
def sqrtF (a : Fp) : Fp × Bool := sqrtG negF mulF greatF (rootF a) a

end Go.Proofs.Ytchlamfdofpolaa

/- The base field's functions, part h: the moduli's limbs; which numbers may be, as the document says it. -/
set_option linter.unusedSimpArgs false
set_option linter.unusedVariables false
namespace Go.Proofs.Ytchlamfdofpolaa
open Go.RowKit

/-- With functions that answer with new slices. -/
noncomputable abbrev Ens (T : Table) (ns : List Nat) : Env := mkEnv Try.prog T ns
theorem Ens_ok {T : Table} {ns : List Nat} (h : TableOk Try.prog T) : EnvOk (Ens T ns) := mkEnv_ok follows_mixed h

abbrev oS (ty : TypeId) : Out Fp := outSlR Fp ty 6 (fun _ => rfl)
abbrev iS : Inp Fp := inpSlR Fp 6 (fun _ => rfl)
abbrev aS : Arg Fp := argSlR Fp
abbrev rS (ty : TypeId) : Res Fp := resSlR Fp ty 6 (fun _ => rfl)
abbrev oB : Out Bool := kBool.rs.out


theorem refP_run : endT (En []) (oS 22) 100 Try.f116 (flat (codeOf Try.f116)) (startSt Try.f116 [] []) = .leaf (some (pLimbs, .t)) := by kernel_rfl
theorem refP_ok : CallOk Try.prog 116 (K0 (rS 22) pLimbs) :=
  G0 (E := En []) Try.func116 (c := codeOf Try.f116) (by kernel_rfl) (bodied Try.func116 (by kernel_rfl) (by kernel_rfl)) (oS 22) pLimbs (DoesL.ends (En_ok .nil) 100 refP_run ⟨.t, rfl, trivial⟩)

/-- From the top limb down: the first that differs tells. -/
def belowF (a m : Fp) : Bool :=
  match a.l5 != m.l5 with
  | true => decide (a.l5 < m.l5)
  | false => match a.l4 != m.l4 with
    | true => decide (a.l4 < m.l4)
    | false => match a.l3 != m.l3 with
      | true => decide (a.l3 < m.l3)
      | false => match a.l2 != m.l2 with
        | true => decide (a.l2 < m.l2)
        | false => match a.l1 != m.l1 with
          | true => decide (a.l1 < m.l1)
          | false => match a.l0 != m.l0 with
            | true => decide (a.l0 < m.l0)
            | false => false

def lfB (b : Bool) : Tree (Option (Bool × Pr)) := .leaf (some (b, .t))
def belowT (a m : Fp) : Tree (Option (Bool × Pr)) :=
  .br (a.l5 != m.l5) (lfB (decide (a.l5 < m.l5))) (.br (a.l4 != m.l4) (lfB (decide (a.l4 < m.l4))) (.br (a.l3 != m.l3) (lfB (decide (a.l3 < m.l3)))
    (.br (a.l2 != m.l2) (lfB (decide (a.l2 < m.l2))) (.br (a.l1 != m.l1) (lfB (decide (a.l1 < m.l1))) (.br (a.l0 != m.l0) (lfB (decide (a.l0 < m.l0))) (lfB false))))))

theorem below_run (a m : Fp) : endT (En []) oB 100 Try.f53 (flat (codeOf Try.f53)) (startSt Try.f53 [iS.av 0 a, iS.av 1 m] (iS.hes a ++ iS.hes m)) = belowT a m := by kernel_rfl

theorem belowT_sat (a m : Fp) : (belowT a m).sat fun q => ∃ p, q = some (belowF a m, p) ∧ p.holds := by
  unfold belowF
  refine ⟨fun h => ?_, fun h => ?_⟩ <;> rw [h]
  · exact ⟨.t, rfl, trivial⟩
  refine ⟨fun h => ?_, fun h => ?_⟩ <;> rw [h]
  · exact ⟨.t, rfl, trivial⟩
  refine ⟨fun h => ?_, fun h => ?_⟩ <;> rw [h]
  · exact ⟨.t, rfl, trivial⟩
  refine ⟨fun h => ?_, fun h => ?_⟩ <;> rw [h]
  · exact ⟨.t, rfl, trivial⟩
  refine ⟨fun h => ?_, fun h => ?_⟩ <;> rw [h]
  · exact ⟨.t, rfl, trivial⟩
  refine ⟨fun h => ?_, fun h => ?_⟩ <;> rw [h]
  · exact ⟨.t, rfl, trivial⟩
  · exact ⟨.t, rfl, trivial⟩

theorem below_ok : CallOk Try.prog 53 (K2 aS aS oB.res belowF) :=
  G2 (E := En []) Try.func53 (c := codeOf Try.f53) (by kernel_rfl) (bodied Try.func53 (by kernel_rfl) (by kernel_rfl)) iS iS oB belowF fun a m _ _ => DoesL.ends (En_ok .nil) 100 (below_run a m) (belowT_sat a m)

def mayPF (a : Fp) : Bool := belowF a pLimbs
theorem mayP_run (bF : Fp → Fp → Bool) (m a : Fp) : plainRun (Ens [(53, K2 aS aS oB.res bF), (116, K0 (rS 22) m)] [116]) kBool.rs 100 Try.f68 [vF a] = .leaf (some (bF a m)) := by kernel_rfl
theorem mayP_ok : CallOk Try.prog 68 (K1 (kRow Fp).arg kBool.rs.res mayPF) := P1 (Ens_ok (.cons below_ok (.cons refP_ok .nil))) Try.func68 (bodied Try.func68 (by kernel_rfl) (by kernel_rfl)) 100 (kRow Fp) kBool.rs mayPF (mayP_run belowF pLimbs) (fun _ => Tree.sat_leaf (by simp only [mayPF]))

end Go.Proofs.Ytchlamfdofpolaa

/- The base field's statements, part i: what the functions of the statements compute. -/
set_option linter.unusedSimpArgs false
set_option linter.unusedVariables false
namespace Go.Proofs.Ytchlamfdofpolaa
open Go.RowKit

/-- A tree of known ways. -/
def Tree.evalB {α : Type} : Tree α → Option α
  | .leaf a => some a
  | .br b x y => match b with | true => x.evalB | false => y.evalB
  | _ => none

theorem Tree.evalB_sat {α : Type} {a : α} : ∀ {x : Tree α}, x.evalB = some a → x.sat fun q => q = a
  | .leaf b, h => by
    have h' : some b = some a := h
    exact Option.some.inj h'
  | .br b x y, h => by
    refine ⟨fun e => ?_, fun e => ?_⟩
    · subst e; exact Tree.evalB_sat (x := x) h
    · subst e; exact Tree.evalB_sat (x := y) h
  | .vc p x, h => by cases h
  | .fail, h => by cases h

abbrev Kfb (F : Fp → Bool) : Contract := K1 (kRow Fp).arg kBool.rs.res F
abbrev Kb (b : Bool) : Contract := K0 kBool.rs.res b
abbrev Kinv (iF : Fp → Fp × Int) : Contract := K1 (kRow Fp).arg rFI.res iF
abbrev Ksqrt (sF : Fp → Fp × Bool) : Contract := K1 (kRow Fp).arg rFB.res sF
abbrev Kof (oF' : UInt64 → Fp) : Contract := K1 kU64.arg rF.res oF'

theorem P1g {α ρ : Type} {E : Env} (hE : EnvOk E) {f : FuncId} {fn : Func} (hf : E.P.funcs[f]? = some fn) (fuel : Nat) (a : Kd α) (r : Rs ρ) (F : α → ρ) {T : α → Tree (Option ρ)}
    (e : ∀ x, plainRun E r fuel fn [.one (a.av x)] = T x) (h : ∀ x, (T x).sat fun q => q = some (F x)) (x : α) (w : World) : Gives E.P f #[a.val x] w r.res (F x) := by
  have := gives_plain hE hf fuel [.one (a.av x)] (by simp only [List.mem_singleton]; rintro v rfl; exact a.av_id x _) w (e x) (h x)
  simpa only [List.map_cons, List.map_nil, gv, a.av_ok] using this

theorem P3g {α β γ ρ : Type} {E : Env} (hE : EnvOk E) {f : FuncId} {fn : Func} (hf : E.P.funcs[f]? = some fn) (fuel : Nat) (a : Kd α) (b : Kd β) (c : Kd γ) (r : Rs ρ) (F : α → β → γ → ρ) {T : α → β → γ → Tree (Option ρ)}
    (e : ∀ x y z, plainRun E r fuel fn [.one (a.av x), .one (b.av y), .one (c.av z)] = T x y z) (h : ∀ x y z, (T x y z).sat fun q => q = some (F x y z)) (x : α) (y : β) (z : γ) (w : World) : Gives E.P f #[a.val x, b.val y, c.val z] w r.res (F x y z) := by
  have := gives_plain hE hf fuel [.one (a.av x), .one (b.av y), .one (c.av z)] (by
    intro v hv
    simp only [List.mem_cons, List.not_mem_nil, or_false] at hv
    rcases hv with rfl | rfl | rfl
    · exact a.av_id x _
    · exact b.av_id y _
    · exact c.av_id z _) w (e x y z) (h x y z)
  simpa only [List.map_cons, List.map_nil, gv, a.av_ok, b.av_ok, c.av_ok] using this

end Go.Proofs.Ytchlamfdofpolaa
