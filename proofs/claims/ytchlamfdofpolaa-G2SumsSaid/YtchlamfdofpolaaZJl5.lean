/- Texts of the proof, joined. -/
import Derived.Test.YtchlamfdofpolaaRows
import Derived.IntWalk
import Derived.Test.YtchlamfdofpolaaZJl4
set_option linter.unusedSimpArgs false
set_option linter.unusedVariables false
namespace Go.Proofs.Ytchlamfdofpolaa
open Go.RowKit
theorem bodied {f : Nat} {fn : Func} (h : Try.prog.funcs[f]? = some fn) (h1 : fn.body.isSome = true) (h2 : (fn.name == "runtime.NumGoroutine") = false) : Bodied Try.prog f := ⟨fn, h, h1, h2⟩
theorem follows_mixed : Try.prog.follows .mixedOrders = true := by kernel_rfl
theorem add64_ok : CallOk Try.prog 123 (K3x addS addC) := Kadd_ok Try.func123 (by kernel_rfl) (by kernel_rfl) (by kernel_rfl) (by kernel_rfl)
theorem sub64_ok : CallOk Try.prog 137 (K3x subS subB) := Ksub_ok Try.func137 (by kernel_rfl) (by kernel_rfl) (by kernel_rfl) (by kernel_rfl)
noncomputable def T0 : Table := [(123, K3x addS addC), (137, K3x subS subB)]
theorem T0_ok : TableOk Try.prog T0 := .cons add64_ok (.cons sub64_ok .nil)
def pLimbs : Fp := ⟨0xb9feffffffffaaab, 0x1eabfffeb153ffff, 0x6730d2a0f6b0f624, 0x64774b84f38512bf, 0x4b1ba7b6434bacd7, 0x1a0111ea397fe69a⟩
noncomputable def E0 : Env := mkEnv Try.prog T0 []
theorem E0_ok : EnvOk E0 := mkEnv_ok follows_mixed T0_ok
theorem modulus_ok : CallOk Try.prog 114 (K0 (kRow Fp).rs.res pLimbs) := P0 E0_ok Try.func114 (bodied Try.func114 (by kernel_rfl) (by kernel_rfl)) 100 (kRow Fp).rs pLimbs (T := .leaf (some pLimbs)) (by kernel_rfl) rfl
noncomputable def T1 : Table := (114, K0 (kRow Fp).rs.res pLimbs) :: T0
theorem T1_ok : TableOk Try.prog T1 := .cons modulus_ok T0_ok
noncomputable def E1 : Env := mkEnv Try.prog T1 []
theorem E1_ok : EnvOk E1 := mkEnv_ok follows_mixed T1_ok
def lessT (a : Fp) : Fp × Bool :=
  let c0 := subB a.l0 pLimbs.l0 false
  let c1 := subB a.l1 pLimbs.l1 c0
  let c2 := subB a.l2 pLimbs.l2 c1
  let c3 := subB a.l3 pLimbs.l3 c2
  let c4 := subB a.l4 pLimbs.l4 c3
  (⟨subS a.l0 pLimbs.l0 false, subS a.l1 pLimbs.l1 c0, subS a.l2 pLimbs.l2 c1, subS a.l3 pLimbs.l3 c2, subS a.l4 pLimbs.l4 c3, subS a.l5 pLimbs.l5 c4⟩, subB a.l5 pLimbs.l5 c4)
def lessF (a : Fp) (over : UInt64) : Fp := match decide (over < b2u (lessT a).2) with | true => a | false => (lessT a).1
theorem less_ok : CallOk Try.prog 136 (K2 (kRow Fp).arg kU64.arg (kRow Fp).rs.res lessF) :=
  P2 E1_ok Try.func136 (bodied Try.func136 (by kernel_rfl) (by kernel_rfl)) 100 (kRow Fp) kU64 (kRow Fp).rs lessF
    (T := fun a o => .br (decide (o < b2u (lessT a).2)) (.leaf (some a)) (.leaf (some (lessT a).1))) (by intro a o; kernel_rfl)
    (by intro a o; exact ⟨fun h => congrArg some (by unfold lessF; rw [h]), fun h => congrArg some (by unfold lessF; rw [h])⟩)
end Go.Proofs.Ytchlamfdofpolaa
set_option linter.unusedSimpArgs false
set_option linter.unusedVariables false
namespace Go.Proofs.Ytchlamfdofpolaa
open Go.RowKit
def mulHi (x y : UInt64) : UInt64 :=
  let t := shrU x 32 * (y &&& 4294967295) + shrU ((x &&& 4294967295) * (y &&& 4294967295)) 32
  shrU x 32 * shrU y 32 + shrU t 32 + shrU ((t &&& 4294967295) + (x &&& 4294967295) * shrU y 32) 32
theorem mul64_ok : CallOk Try.prog 125 (K2 kU64.arg kU64.arg (kU64.rs2 kU64).res fun x y => (mulHi x y, x * y)) :=
  P2 E0_ok Try.func125 (bodied Try.func125 (by kernel_rfl) (by kernel_rfl)) 100 kU64 kU64 (kU64.rs2 kU64) (fun x y => (mulHi x y, x * y))
    (T := fun x y => .leaf (some (mulHi x y, x * y))) (by intro x y; kernel_rfl) (fun _ _ => rfl)
theorem shrU32_nat (x : UInt64) : (shrU x 32).toNat = x.toNat / 4294967296 := by
  have := x.toNat_lt
  unfold shrU
  rw [show (min (Int.toNat 32) 64) = 32 from rfl, UInt64.toNat_ofNat']
  omega
theorem and32_nat (x : UInt64) : (x &&& 4294967295).toNat = x.toNat % 4294967296 := by
  rw [UInt64.toNat_and]
  exact Nat.and_two_pow_sub_one_eq_mod x.toNat 32
theorem mulHi_nat (x y : UInt64) : (mulHi x y).toNat = x.toNat * y.toNat / 18446744073709551616 := by
  have hx := x.toNat_lt
  have hy := y.toNat_lt
  have h1 : x.toNat = 4294967296 * (x.toNat / 4294967296) + x.toNat % 4294967296 := by omega
  have h2 : y.toNat = 4294967296 * (y.toNat / 4294967296) + y.toNat % 4294967296 := by omega
  have b0 : x.toNat % 4294967296 ≤ 4294967295 := by omega
  have b1 : x.toNat / 4294967296 ≤ 4294967295 := by omega
  have c0 : y.toNat % 4294967296 ≤ 4294967295 := by omega
  have c1 : y.toNat / 4294967296 ≤ 4294967295 := by omega
  unfold mulHi
  simp only [UInt64.toNat_add, UInt64.toNat_mul, shrU32_nat, and32_nat]
  generalize hx0 : x.toNat % 4294967296 = x0 at *
  generalize hx1 : x.toNat / 4294967296 = x1 at *
  generalize hy0 : y.toNat % 4294967296 = y0 at *
  generalize hy1 : y.toNat / 4294967296 = y1 at *
  have p00 : x0 * y0 ≤ 4294967295 * 4294967295 := Nat.mul_le_mul b0 c0
  have p01 : x0 * y1 ≤ 4294967295 * 4294967295 := Nat.mul_le_mul b0 c1
  have p10 : x1 * y0 ≤ 4294967295 * 4294967295 := Nat.mul_le_mul b1 c0
  have p11 : x1 * y1 ≤ 4294967295 * 4294967295 := Nat.mul_le_mul b1 c1
  have e : x.toNat * y.toNat = 18446744073709551616 * (x1 * y1) + 4294967296 * (x1 * y0) + 4294967296 * (x0 * y1) + x0 * y0 := by
    rw [h1, h2]
    simp only [Nat.mul_add, Nat.add_mul]
    have q1 : 4294967296 * x1 * (4294967296 * y1) = 18446744073709551616 * (x1 * y1) := by
      rw [Nat.mul_mul_mul_comm]
    have q2 : 4294967296 * x1 * y0 = 4294967296 * (x1 * y0) := Nat.mul_assoc _ _ _
    have q3 : x0 * (4294967296 * y1) = 4294967296 * (x0 * y1) := by rw [Nat.mul_left_comm]
    omega
  rw [e]
  generalize x0 * y0 = p at *
  generalize x0 * y1 = q at *
  generalize x1 * y0 = r at *
  generalize x1 * y1 = s at *
  omega
def macL (x y t c : UInt64) : UInt64 := addS (addS (x * y) t false) c false
def macH (x y t c : UInt64) : UInt64 := mulHi x y + b2u (addC (x * y) t false) + b2u (addC (addS (x * y) t false) c false)
theorem mac_nat (x y t c : UInt64) : (macH x y t c).toNat * 18446744073709551616 + (macL x y t c).toNat = x.toNat * y.toNat + t.toNat + c.toNat := by
  have hx := x.toNat_lt
  have hy := y.toNat_lt
  have ht := t.toNat_lt
  have hc := c.toNat_lt
  have hp : x.toNat * y.toNat ≤ 18446744073709551615 * 18446744073709551615 := Nat.mul_le_mul (by omega) (by omega)
  unfold macH macL
  simp only [UInt64.toNat_add, b2u_nat, addS_nat, addC_nat, mulHi_nat, UInt64.toNat_mul, Bool.toNat_false]
  generalize x.toNat * y.toNat = p at *
  omega
end Go.Proofs.Ytchlamfdofpolaa
set_option linter.unusedSimpArgs false
set_option linter.unusedVariables false
namespace Go.Proofs.Ytchlamfdofpolaa
open Go.RowKit
noncomputable def T2 : Table := (136, K2 (kRow Fp).arg kU64.arg (kRow Fp).rs.res lessF) :: (125, K2 kU64.arg kU64.arg (kU64.rs2 kU64).res fun x y => (mulHi x y, x * y)) :: T1
theorem T2_ok : TableOk Try.prog T2 := .cons less_ok (.cons mul64_ok T1_ok)
noncomputable def E2 : Env := mkEnv Try.prog T2 []
theorem E2_ok : EnvOk E2 := mkEnv_ok follows_mixed T2_ok
structure L7 where
  t0 : UInt64
  t1 : UInt64
  t2 : UInt64
  t3 : UInt64
  t4 : UInt64
  t5 : UInt64
  t6 : UInt64
def pInv : UInt64 := 0x89f3fffcfffcfffd
def roundB (t0 t1 t2 t3 t4 t5 top : UInt64) (more : Bool) : L7 :=
  let x := t0 * pInv
  let d0 := mulHi x pLimbs.l0 + b2u (addC (x * pLimbs.l0) t0 false)
  let d1 := macH x pLimbs.l1 t1 d0
  let d2 := macH x pLimbs.l2 t2 d1
  let d3 := macH x pLimbs.l3 t3 d2
  let d4 := macH x pLimbs.l4 t4 d3
  let d5 := macH x pLimbs.l5 t5 d4
  ⟨macL x pLimbs.l1 t1 d0, macL x pLimbs.l2 t2 d1, macL x pLimbs.l3 t3 d2, macL x pLimbs.l4 t4 d3, macL x pLimbs.l5 t5 d4, addS top d5 false, b2u more + b2u (addC top d5 false)⟩
def roundF (a : Fp) (b : UInt64) (t : L7) : L7 :=
  let c0 := macH a.l0 b t.t0 0
  let c1 := macH a.l1 b t.t1 c0
  let c2 := macH a.l2 b t.t2 c1
  let c3 := macH a.l3 b t.t3 c2
  let c4 := macH a.l4 b t.t4 c3
  let c5 := macH a.l5 b t.t5 c4
  roundB (macL a.l0 b t.t0 0) (macL a.l1 b t.t1 c0) (macL a.l2 b t.t2 c1) (macL a.l3 b t.t3 c2) (macL a.l4 b t.t4 c3) (macL a.l5 b t.t5 c4) (addS t.t6 c5 false) (addC t.t6 c5 false)
def half1 (a b : Fp) : L7 := roundF a b.l0 ⟨0, 0, 0, 0, 0, 0, 0⟩
def half2 (a b : Fp) : L7 := roundF a b.l1 (half1 a b)
def half3 (a b : Fp) : L7 := roundF a b.l2 (half2 a b)
def half4 (a b : Fp) : L7 := roundF a b.l3 (half3 a b)
def half5 (a b : Fp) : L7 := roundF a b.l4 (half4 a b)
def halfT (a b : Fp) : L7 := roundF a b.l5 (half5 a b)
def L7.low (t : L7) : Fp := ⟨t.t0, t.t1, t.t2, t.t3, t.t4, t.t5⟩
def halfF (a b : Fp) : Fp := lessF (halfT a b).low (halfT a b).t6
def ptrV (n : Nat) : AV := .one (.c (.ptr n 0))
def litV (n : Nat) : AV := .one (.c (.lit .i64 n))
def own (ty : TypeId) (cs : List Cell) : HE := .live ⟨true, ty, 0, .row cs, false⟩
def L7.cs (t : L7) : List Cell := [.u64 t.t0, .u64 t.t1, .u64 t.t2, .u64 t.t3, .u64 t.t4, .u64 t.t5, .u64 t.t6]
def zeros (n : Nat) : List Cell := List.replicate n (.lit .u64 0)
def hSt (a b : Fp) (k : Nat) (t : List Cell) : St :=
  mkSt 139 [(2, ptrV 0), (3, ptrV 1), (4, ptrV 2), (5, ptrV 3), (6, ptrV 4), (18, litV k)] [own 28 (Row.cs a), own 28 (Row.cs b), own 28 (zeros 6), own 28 (Row.cs pLimbs), own 133 t]
def hCut : X → Option (List Nat × List Nat) := same [2, 3, 4, 5, 6, 18] [0, 1, 2, 3, 4]
noncomputable def hCode : List Code := flat (codeOf Try.f102)
noncomputable def hBody : Code := loopAt Try.f102 0
set_option maxRecDepth 100000
theorem half_start (a b : Fp) : stageT E2 100 (hCode.take 4) (startSt Try.f102 [.one ((kRow Fp).av a), .one ((kRow Fp).av b)] []) [2, 3, 4, 5, 6, 18] [0, 1, 2, 3, 4] = .leaf (hSt a b 0 (zeros 7)) := by kernel_rfl
theorem half_round0 (a b : Fp) : roundT E2 100 hBody (hSt a b 0 (zeros 7)) hCut = .leaf (.normal, hSt a b 1 (roundF a b.l0 ⟨0, 0, 0, 0, 0, 0, 0⟩).cs) := by kernel_rfl
theorem half_round1 (a b : Fp) (t : L7) : roundT E2 100 hBody (hSt a b 1 t.cs) hCut = .leaf (.normal, hSt a b 2 (roundF a b.l1 t).cs) := by kernel_rfl
theorem half_round2 (a b : Fp) (t : L7) : roundT E2 100 hBody (hSt a b 2 t.cs) hCut = .leaf (.normal, hSt a b 3 (roundF a b.l2 t).cs) := by kernel_rfl
theorem half_round3 (a b : Fp) (t : L7) : roundT E2 100 hBody (hSt a b 3 t.cs) hCut = .leaf (.normal, hSt a b 4 (roundF a b.l3 t).cs) := by kernel_rfl
theorem half_round4 (a b : Fp) (t : L7) : roundT E2 100 hBody (hSt a b 4 t.cs) hCut = .leaf (.normal, hSt a b 5 (roundF a b.l4 t).cs) := by kernel_rfl
theorem half_round5 (a b : Fp) (t : L7) : roundT E2 100 hBody (hSt a b 5 t.cs) hCut = .leaf (.normal, hSt a b 6 (roundF a b.l5 t).cs) := by kernel_rfl
theorem half_out (a b : Fp) (t : L7) : roundT E2 100 hBody (hSt a b 6 t.cs) hCut = .leaf (.exit 0, hSt a b 6 t.cs) := by kernel_rfl
theorem half_fin (a b : Fp) (t : L7) : finT E2 (kRow Fp).rs 100 Try.f102 (hCode.drop 5) (hSt a b 6 t.cs) = .leaf (some (lessF t.low t.t6)) := by kernel_rfl
theorem half_split : hCode.drop 4 = .block 0 (.loop hBody) :: hCode.drop 5 := by kernel_rfl
def hInv (a b : Fp) (k : Fin 7) : St :=
  match k with
  | 0 => hSt a b 0 (zeros 7)
  | 1 => hSt a b 1 (half1 a b).cs
  | 2 => hSt a b 2 (half2 a b).cs
  | 3 => hSt a b 3 (half3 a b).cs
  | 4 => hSt a b 4 (half4 a b).cs
  | 5 => hSt a b 5 (half5 a b).cs
  | 6 => hSt a b 6 (halfT a b).cs
theorem half_ok : CallOk Try.prog 102 (K2 (kRow Fp).arg (kRow Fp).arg (kRow Fp).rs.res halfF) := by
  refine Q2 (E := E2) Try.func102 (c := codeOf Try.f102) (by kernel_rfl) (bodied Try.func102 (by kernel_rfl) (by kernel_rfl)) (kRow Fp) (kRow Fp) (kRow Fp).rs halfF fun a b => ?_
  refine DoesL.stageTo E2_ok 100 4 [2, 3, 4, 5, 6, 18] [0, 1, 2, 3, 4] (half_start a b) ?_
  refine DoesL.blockLoop half_split (hInv a b) (fun k => 6 - k.1) 0 fun k => ?_
  match k with
  | 0 => exact Does.round E2_ok 100 hCut (half_round0 a b) ⟨1, by decide, by simp only [hInv, half1]⟩
  | 1 => exact Does.round E2_ok 100 hCut (half_round1 a b _) ⟨2, by decide, by simp only [hInv, half2]⟩
  | 2 => exact Does.round E2_ok 100 hCut (half_round2 a b _) ⟨3, by decide, by simp only [hInv, half3]⟩
  | 3 => exact Does.round E2_ok 100 hCut (half_round3 a b _) ⟨4, by decide, by simp only [hInv, half4]⟩
  | 4 => exact Does.round E2_ok 100 hCut (half_round4 a b _) ⟨5, by decide, by simp only [hInv, half5]⟩
  | 5 => exact Does.round E2_ok 100 hCut (half_round5 a b _) ⟨6, by decide, by simp only [hInv, halfT]⟩
  | 6 => exact Does.round E2_ok 100 hCut (half_out a b _) ⟨rfl, DoesL.fin E2_ok 100 (half_fin a b _) (Tree.sat_leaf (by simp only [halfF]))⟩
end Go.Proofs.Ytchlamfdofpolaa
set_option linter.unusedSimpArgs false
set_option linter.unusedVariables false
namespace Go.Proofs.Ytchlamfdofpolaa
open Go.RowKit
abbrev Kc (x : Fp) : Contract := K0 (kRow Fp).rs.res x
abbrev Kf (F : Fp → Fp) : Contract := K1 (kRow Fp).arg (kRow Fp).rs.res F
abbrev Kff (F : Fp → Fp → Fp) : Contract := K2 (kRow Fp).arg (kRow Fp).arg (kRow Fp).rs.res F
noncomputable abbrev En (T : Table) : Env := mkEnv Try.prog T []
theorem En_ok {T : Table} (h : TableOk Try.prog T) : EnvOk (En T) := mkEnv_ok follows_mixed h
abbrev vF (a : Fp) : AV := .one ((kRow Fp).av a)
abbrev vU (a : UInt64) : AV := .one (kU64.av a)
abbrev rF : Rs Fp := (kRow Fp).rs
def sqLimbs : Fp := ⟨0xf4df1f341c341746, 0x0a76e6a609d104f1, 0x8de5476c4c95b6d5, 0x67eb88a9939d83c0, 0x9a793e85b519952d, 0x11988fe592cae3aa⟩
theorem square_ok : CallOk Try.prog 138 (Kc sqLimbs) := P0 E0_ok Try.func138 (bodied Try.func138 (by kernel_rfl) (by kernel_rfl)) 100 rF sqLimbs (T := .leaf (some sqLimbs)) (by kernel_rfl) rfl
def wholeF (a : Fp) : Fp := halfF a sqLimbs
def oneFp : Fp := ⟨1, 0, 0, 0, 0, 0⟩
def zeroFp : Fp := ⟨0, 0, 0, 0, 0, 0⟩
def lowF (a : Fp) : Fp := halfF a oneFp
theorem whole_run (hF : Fp → Fp → Fp) (q a : Fp) : plainRun (En [(102, Kff hF), (138, Kc q)]) rF 100 Try.f105 [vF a] = .leaf (some (hF a q)) := by kernel_rfl
theorem low_run (hF : Fp → Fp → Fp) (a : Fp) : plainRun (En [(102, Kff hF)]) rF 100 Try.f101 [vF a] = .leaf (some (hF a oneFp)) := by kernel_rfl
theorem whole_ok : CallOk Try.prog 105 (Kf wholeF) := P1 (En_ok (.cons half_ok (.cons square_ok .nil))) Try.func105 (bodied Try.func105 (by kernel_rfl) (by kernel_rfl)) 100 (kRow Fp) rF wholeF (whole_run halfF sqLimbs) (fun _ => Tree.sat_leaf (by simp only [wholeF]))
theorem low_ok : CallOk Try.prog 101 (Kf lowF) := P1 (En_ok (.cons half_ok .nil)) Try.func101 (bodied Try.func101 (by kernel_rfl) (by kernel_rfl)) 100 (kRow Fp) rF lowF (low_run halfF) (fun _ => Tree.sat_leaf (by simp only [lowF]))
def addT (a b : Fp) : Fp × Bool :=
  let c0 := addC a.l0 b.l0 false
  let c1 := addC a.l1 b.l1 c0
  let c2 := addC a.l2 b.l2 c1
  let c3 := addC a.l3 b.l3 c2
  let c4 := addC a.l4 b.l4 c3
  (⟨addS a.l0 b.l0 false, addS a.l1 b.l1 c0, addS a.l2 b.l2 c1, addS a.l3 b.l3 c2, addS a.l4 b.l4 c3, addS a.l5 b.l5 c4⟩, addC a.l5 b.l5 c4)
def addF (a b : Fp) : Fp := lessF (addT a b).1 (b2u (addT a b).2)
theorem add_run (lF : Fp → UInt64 → Fp) (a b : Fp) : plainRun (En [(123, K3x addS addC), (136, K2 (kRow Fp).arg kU64.arg rF.res lF)]) rF 100 Try.f104 [vF a, vF b] = .leaf (some (lF (addT a b).1 (b2u (addT a b).2))) := by kernel_rfl
theorem add_ok : CallOk Try.prog 104 (Kff addF) := P2 (En_ok (.cons add64_ok (.cons less_ok .nil))) Try.func104 (bodied Try.func104 (by kernel_rfl) (by kernel_rfl)) 100 (kRow Fp) (kRow Fp) rF addF (add_run lessF) (fun _ _ => Tree.sat_leaf (by simp only [addF]))
def subT (a b : Fp) : Fp × Bool :=
  let c0 := subB a.l0 b.l0 false
  let c1 := subB a.l1 b.l1 c0
  let c2 := subB a.l2 b.l2 c1
  let c3 := subB a.l3 b.l3 c2
  let c4 := subB a.l4 b.l4 c3
  (⟨subS a.l0 b.l0 false, subS a.l1 b.l1 c0, subS a.l2 b.l2 c1, subS a.l3 b.l3 c2, subS a.l4 b.l4 c3, subS a.l5 b.l5 c4⟩, subB a.l5 b.l5 c4)
def subF (a b : Fp) : Fp := match decide (b2u (subT a b).2 = 0) with | true => (subT a b).1 | false => (addT (subT a b).1 pLimbs).1
theorem sub_run (a b : Fp) : plainRun E1 rF 100 Try.f103 [vF a, vF b] = .br (decide (b2u (subT a b).2 = 0)) (.leaf (some (subT a b).1)) (.leaf (some (addT (subT a b).1 pLimbs).1)) := by kernel_rfl
theorem sub_ok : CallOk Try.prog 103 (Kff subF) := P2 E1_ok Try.func103 (bodied Try.func103 (by kernel_rfl) (by kernel_rfl)) 100 (kRow Fp) (kRow Fp) rF subF sub_run
  (by intro a b; exact ⟨fun h => congrArg some (by unfold subF; rw [h]), fun h => congrArg some (by unfold subF; rw [h])⟩)
def negF (a : Fp) : Fp := subF zeroFp a
def mulF (a b : Fp) : Fp := wholeF (halfF a b)
def ofF (n : UInt64) : Fp := ⟨n, 0, 0, 0, 0, 0⟩
theorem neg_run (sF : Fp → Fp → Fp) (a : Fp) : plainRun (En [(103, Kff sF)]) rF 100 Try.f61 [vF a] = .leaf (some (sF zeroFp a)) := by kernel_rfl
theorem neg_ok : CallOk Try.prog 61 (Kf negF) := P1 (En_ok (.cons sub_ok .nil)) Try.func61 (bodied Try.func61 (by kernel_rfl) (by kernel_rfl)) 100 (kRow Fp) rF negF (neg_run subF) (fun _ => Tree.sat_leaf (by simp only [negF]))
theorem mul_run (hF : Fp → Fp → Fp) (wF : Fp → Fp) (a b : Fp) : plainRun (En [(102, Kff hF), (105, Kf wF)]) rF 100 Try.f66 [vF a, vF b] = .leaf (some (wF (hF a b))) := by kernel_rfl
theorem mul_ok : CallOk Try.prog 66 (Kff mulF) := P2 (En_ok (.cons half_ok (.cons whole_ok .nil))) Try.func66 (bodied Try.func66 (by kernel_rfl) (by kernel_rfl)) 100 (kRow Fp) (kRow Fp) rF mulF (mul_run halfF wholeF) (fun _ _ => Tree.sat_leaf (by simp only [mulF]))
end Go.Proofs.Ytchlamfdofpolaa
set_option linter.unusedSimpArgs false
set_option linter.unusedVariables false
namespace Go.Proofs.Ytchlamfdofpolaa
open Go.RowKit
def argNat : Arg Nat where
  rd := fun _ v => match v with
    | .one (.c (.lit .i64 n)) => match decide (0 ≤ n) with
      | true => some (n.toNat, .t, [])
      | false => none
    | .one (.c (.int .i64 n)) => some (n.toNat, .p (0 ≤ n), [])
    | _ => none
  is := fun _ v x => v = .int .i64 (x : Int)
  ok := fun {w0 β h w v x p rs} e hp _ _ => by
    split at e
    · split at e
      · rename_i hd
        cases e
        simp only [decide_eq_true_eq] at hd
        simp only [gv, g1, gc]
        congr 1
        omega
      · cases e
    · cases e
      have : (0 : Int) ≤ _ := hp
      simp only [gv, g1, gc]
      congr 1
      omega
    · cases e
  near := fun e _ => e
def inpNat : Inp Nat where
  arg := argNat
  av := fun _ x => .one (.c (.int .i64 (x : Int)))
  hes := fun _ => []
  fact := fun _ => True
  known := fun _ => trivial
  intro := fun {w0 β heap w v x} hr _ hv => ⟨β, by rw [List.append_nil]; exact hr, hv.symm, okc_none rfl, fun _ _ => rfl⟩
abbrev oU : Out UInt64 := kU64.rs.out
abbrev iL : Inp (List UInt64) := inpSl eU64
abbrev aL : Arg (List UInt64) := argSl eU64
def atF (xs : List UInt64) (i : Nat) : UInt64 := xs.getD i 0
theorem at_run (xs : List UInt64) (i : Nat) : endT (En []) oU 100 Try.f141 (flat (codeOf Try.f141)) (startSt Try.f141 [iL.av 0 xs, inpNat.av 1 i] [inHE eU64 xs]) =
    .vc (0 + xs.length * 1 ≤ (eU64.body xs).cells.length ∧ 0 < 1) (.br (decide ((i : Int) < (xs.length : Int))) (.vc ((0 ≤ (i : Int) ∧ (i : Int) < (xs.length : Int)) ∧ (0 + xs.length * 1 ≤ (eU64.body xs).cells.length ∧ 0 < 1)) (.vc (0 + (i : Int).toNat * 1 < xs.length) (.leaf (some (xs.getD (0 + (i : Int).toNat * 1) 0, .t)))))
      (.leaf (some (0, .t)))) := by kernel_rfl
theorem at_ok : CallOk Try.prog 141 (K2 aL argNat kU64.rs.res atF) :=
  G2 (E := En []) Try.func141 (c := codeOf Try.f141) (by kernel_rfl) (bodied Try.func141 (by kernel_rfl) (by kernel_rfl)) iL inpNat oU atF fun xs i _ _ => by
    refine DoesL.ends (En_ok .nil) 100 (at_run xs i) ⟨⟨by rw [eU64.cells_len]; omega, by decide⟩, fun _ => ⟨fun h => ?_, fun h => ?_⟩⟩
    · simp only [decide_eq_true_eq] at h
      refine ⟨⟨⟨by omega, h⟩, by rw [eU64.cells_len]; omega, by decide⟩, fun _ => ⟨by omega, fun _ => ⟨.t, ?_, trivial⟩⟩⟩
      simp [atF]
    · simp only [decide_eq_false_iff_not] at h
      refine ⟨.t, ?_, trivial⟩
      have : xs.length ≤ i := by omega
      simp [atF, List.getElem?_eq_none this]
def scopeAt : Code → Option Code
  | .scope a => some a
  | .seq a b => match scopeAt a with | some c => some c | none => scopeAt b
  | .block _ a => scopeAt a
  | _ => none
def scopeOf (fn : Func) : Code := match scopeAt (codeOf fn) with | some c => c | none => .skip
def restOf (fn : Func) : Code := match findLabel (scopeOf fn) 0 with | some c => c | none => .skip
abbrev vI (z : Int) : AV := .one (.c (.int .i64 z))
abbrev oI : Out Int := kInt.rs.out
abbrev okL (xs : List UInt64) : Prop := 0 + xs.length ≤ xs.length ∧ xs.length < topLen ∧ RC.fits (.of 0) 0 xs.length 1 1
def cmpSt (xs ys : List UInt64) (z : Int) : St := mkSt 31 [(0, inV 0 xs), (1, inV 1 ys), (5, vI z)] [inHE eU64 xs, inHE eU64 ys]
def maxI (xs ys : List UInt64) : Int := if (ys.length : Int) > xs.length then ys.length else xs.length
theorem cmp_front (T : Table) (xs ys : List UInt64) : stageT (En T) 100 ((flat (codeOf Try.f115)).take 1) (startSt Try.f115 [iL.av 0 xs, iL.av 1 ys] [inHE eU64 xs, inHE eU64 ys]) [0, 1] [0, 1] =
    .leaf (mkSt 31 [(0, inV 0 xs), (1, inV 1 ys)] [inHE eU64 xs, inHE eU64 ys]) := by kernel_rfl
theorem cmp_start (T : Table) (xs ys : List UInt64) : stageT (En T) 100 ((flat (scopeOf Try.f115)).take 2) (mkSt 31 [(0, inV 0 xs), (1, inV 1 ys)] [inHE eU64 xs, inHE eU64 ys]) [0, 1, 5] [0, 1] =
    .vc (0 + xs.length * 1 ≤ (eU64.body xs).cells.length ∧ 0 < 1) (.vc (0 + ys.length * 1 ≤ (eU64.body ys).cells.length ∧ 0 < 1) (.leaf (cmpSt xs ys (maxI xs ys)))) := by kernel_rfl
theorem cmp_iter (aF : List UInt64 → Nat → UInt64) (xs ys : List UInt64) (z : Int) : iterT (En [(141, K2 aL argNat kU64.rs.res aF)]) oI 100 Try.f115 ((flat (scopeOf Try.f115)).drop 2) (cmpSt xs ys z) [0, 1, 5] [0, 1] =
    .br (decide (IntKind.i64.wrap (z - 1) < 0)) (.leaf (.inr (some (0, .t))))
      (.vc (okL xs ∧ 0 ≤ IntKind.i64.wrap (z - 1)) (.vc (okL ys ∧ 0 ≤ IntKind.i64.wrap (z - 1))
        (.br (decide (aF ((xs.drop 0).take xs.length) (IntKind.i64.wrap (z - 1)).toNat < aF ((ys.drop 0).take ys.length) (IntKind.i64.wrap (z - 1)).toNat)) (.leaf (.inr (some (-1, .t))))
          (.br (decide (aF ((xs.drop 0).take xs.length) (IntKind.i64.wrap (z - 1)).toNat > aF ((ys.drop 0).take ys.length) (IntKind.i64.wrap (z - 1)).toNat)) (.leaf (.inr (some (1, .t))))
            (.leaf (.inl (.goto 0, cmpSt xs ys (IntKind.i64.wrap (z - 1))))))))) := by kernel_rfl
def cmpAt (xs ys : List UInt64) : Nat → Int
  | 0 => 0
  | n + 1 => if atF xs n < atF ys n then -1 else if atF xs n > atF ys n then 1 else cmpAt xs ys n
def cmpF (xs ys : List UInt64) : Int := cmpAt xs ys (maxI xs ys).toNat
theorem cells_len (xs : List UInt64) : (eU64.body xs).cells.length = xs.length := eU64.cells_len xs
theorem okL_of {xs : List UInt64} (h : xs.length < topLen) : okL xs := ⟨by omega, h, by simp [RC.fits]⟩
abbrev CmpOk (xs ys : List UInt64) : Type := { z : Int // 0 ≤ z ∧ z < topLen ∧ cmpAt xs ys z.toNat = cmpF xs ys }
def cmpI (xs ys : List UInt64) (z : CmpOk xs ys) : St := cmpSt xs ys z.1
theorem cmp_ok : CallOk Try.prog 115 (K2 aL aL kInt.rs.res cmpF) :=
  G2 (E := En [(141, K2 aL argNat kU64.rs.res atF)]) Try.func115 (c := codeOf Try.f115) (by kernel_rfl) (bodied Try.func115 (by kernel_rfl) (by kernel_rfl)) iL iL oI cmpF fun xs ys hx hy => by
    have hE : EnvOk (En [(141, K2 aL argNat kU64.rs.res atF)]) := En_ok (.cons at_ok .nil)
    have hx : xs.length < 1125899906842624 := hx
    have hy : ys.length < 1125899906842624 := hy
    have hm : 0 ≤ maxI xs ys ∧ maxI xs ys < topLen := by unfold maxI topLen; split <;> omega
    refine DoesL.stageE hE 100 1 [0, 1] [0, 1] (cmp_front _ xs ys) ?_
    refine DoesL.scopeFn (body := scopeOf Try.f115) (rest := restOf Try.f115) (tail := []) (l := 0) hE (by kernel_rfl) (by kernel_rfl) 100 2 (by kernel_rfl) [0, 1, 5] [0, 1] (cmpI xs ys) (fun z => z.1.toNat)
      ⟨maxI xs ys, hm.1, hm.2, rfl⟩ (cmp_start _ xs ys) ⟨⟨by rw [cells_len]; omega, by decide⟩, fun _ => ⟨⟨by rw [cells_len]; omega, by decide⟩, fun _ => rfl⟩⟩ fun z => ?_
    · obtain ⟨z, h0, h1, h2⟩ := z
      have h1 : z < 1125899906842624 := h1
      have hw : IntKind.i64.wrap (z - 1) = z - 1 := IntWalk.i64_in _ (by omega)
      refine DoesL.iter hE 100 [0, 1, 5] [0, 1] (cmp_iter atF xs ys z) ?_
      rw [hw]
      simp only [List.drop_zero, List.take_length]
      refine ⟨fun h => ?_, fun h => ⟨⟨okL_of hx, ?_⟩, fun _ => ⟨⟨okL_of hy, ?_⟩, fun _ => ⟨fun h3 => ?_, fun h3 => ⟨fun h4 => ?_, fun h4 => ?_⟩⟩⟩⟩⟩
      · simp only [decide_eq_true_eq] at h
        obtain rfl : z = 0 := by omega
        exact ⟨.t, by rw [← h2]; rfl, trivial⟩
      all_goals simp only [decide_eq_false_iff_not] at h
      · omega
      · omega
      all_goals
        obtain ⟨n, rfl⟩ : ∃ n : Nat, z = (n : Int) + 1 := ⟨(z - 1).toNat, by omega⟩
        rw [show ((n : Int) + 1).toNat = n + 1 by omega] at h2
        rw [show ((n : Int) + 1 - 1).toNat = n by omega] at h3
        simp only [cmpAt] at h2
      · simp only [decide_eq_true_eq] at h3
        rw [if_pos h3] at h2
        exact ⟨.t, by rw [← h2], trivial⟩
      · rw [show ((n : Int) + 1 - 1).toNat = n by omega] at h4
        simp only [decide_eq_false_iff_not] at h3
        simp only [decide_eq_true_eq] at h4
        rw [if_neg h3, if_pos h4] at h2
        exact ⟨.t, by rw [← h2], trivial⟩
      · rw [show ((n : Int) + 1 - 1).toNat = n by omega] at h4
        simp only [decide_eq_false_iff_not] at h3 h4
        rw [if_neg h3, if_neg h4] at h2
        exact ⟨rfl, ⟨(n : Int) + 1 - 1, by omega, by unfold topLen; omega, by rw [show ((n : Int) + 1 - 1).toNat = n by omega]; exact h2⟩, by simp only []; omega, rfl⟩
end Go.Proofs.Ytchlamfdofpolaa
set_option linter.unusedSimpArgs false
set_option linter.unusedVariables false
namespace Go.Proofs.Ytchlamfdofpolaa
open Go.RowKit
def Fp.list (a : Fp) : List UInt64 := [a.l0, a.l1, a.l2, a.l3, a.l4, a.l5]
abbrev Kcmp (cF : List UInt64 → List UInt64 → Int) : Contract := K2 aL aL kInt.rs.res cF
def mayF (a : Fp) : Bool := decide (cmpF a.list pLimbs.list < 0)
theorem may_run (cF : List UInt64 → List UInt64 → Int) (m a : Fp) : plainRun (En [(115, Kcmp cF), (114, Kc m)]) kBool.rs 100 Try.f65 [vF a] = .leaf (some (decide (cF a.list m.list < 0))) := by kernel_rfl
theorem may_ok : CallOk Try.prog 65 (K1 (kRow Fp).arg kBool.rs.res mayF) := P1 (En_ok (.cons cmp_ok (.cons modulus_ok .nil))) Try.func65 (bodied Try.func65 (by kernel_rfl) (by kernel_rfl)) 100 (kRow Fp) kBool.rs mayF (may_run cmpF pLimbs) (fun _ => Tree.sat_leaf (by simp only [mayF]))
abbrev oF : Out Fp := rF.out
def powSt (e : List UInt64) (x o : Fp) (z : Int) : St := mkSt 38 [(1, inV 0 e), (4, ptrV 1), (5, ptrV 2), (6, ptrV 3), (7, vI z)] [inHE eU64 e, own 28 (zeros 6), own 28 (Row.cs x), own 28 (Row.cs o)]
def tPow (wF : Fp → Fp) (hF : Fp → Fp → Fp) (lF : Fp → Fp) : Table := [(105, Kf wF), (102, Kff hF), (101, Kf lF)]
theorem pow_front (T : Table) (a : Fp) (e : List UInt64) : stageT (En T) 100 ((flat (codeOf Try.f135)).take 1) (startSt Try.f135 [vF a, iL.av 0 e] [inHE eU64 e]) [1, 2, 4] [0, 1, 2] =
    .leaf (mkSt 38 [(1, inV 0 e), (2, ptrV 1), (4, ptrV 2)] [inHE eU64 e, own 28 (Row.cs a), own 28 (zeros 6)]) := by kernel_rfl
theorem pow_start (hF : Fp → Fp → Fp) (wF lF : Fp → Fp) (a : Fp) (e : List UInt64) : stageT (En (tPow wF hF lF)) 100 ((flat (scopeOf Try.f135)).take 3) (mkSt 38 [(1, inV 0 e), (2, ptrV 1), (4, ptrV 2)] [inHE eU64 e, own 28 (Row.cs a), own 28 (zeros 6)]) [1, 4, 5, 6, 7] [0, 2, 3, 4] =
    .vc (0 + e.length * 1 ≤ (eU64.body e).cells.length ∧ 0 < 1) (.leaf (powSt e (wF a) (wF oneFp) (IntKind.i64.wrap (64 * e.length)))) := by kernel_rfl
def quoZ (z : Int) : Int := IntKind.i64.wrap ((IntKind.i64.wrap (z - 1)).tdiv 64)
def remZ (z : Int) : UInt64 := UInt64.ofNat (((IntKind.i64.wrap (z - 1)).tmod 64) % 18446744073709551616).toNat
def bitZ (e : List UInt64) (z : Int) : Bool := shrU (e.getD (0 + (quoZ z).toNat * 1) 0) ((remZ z).toNat : Int) &&& 1 == 1
theorem pow_iter (hF : Fp → Fp → Fp) (wF lF : Fp → Fp) (x o : Fp) (e : List UInt64) (z : Int) : iterT (En (tPow wF hF lF)) oF 100 Try.f135 ((flat (scopeOf Try.f135)).drop 3) (powSt e x o z) [1, 4, 5, 6, 7] [0, 1, 2, 3] =
    .br (decide (IntKind.i64.wrap (z - 1) < 0)) (.leaf (.inr (some (lF o, .t))))
      (.vc ((0 ≤ quoZ z ∧ quoZ z < e.length) ∧ 0 + e.length * 1 ≤ (eU64.body e).cells.length ∧ 0 < 1) (.vc (0 + (quoZ z).toNat * 1 < e.length)
        (.br (bitZ e z) (.leaf (.inl (.goto 0, powSt e x (hF (hF o o) x) (IntKind.i64.wrap (z - 1))))) (.leaf (.inl (.goto 0, powSt e x (hF o o) (IntKind.i64.wrap (z - 1)))))))) := by kernel_rfl
def bitAt (e : List UInt64) (i : Nat) : Bool := (e.getD (i / 64) 0).toNat.testBit (i % 64)
theorem shr_bit (x : UInt64) (k : Nat) (hk : k < 64) : (shrU x (k : Int) &&& 1 == 1) = x.toNat.testBit k := by
  have h1 : (shrU x (k : Int)).toNat = x.toNat / 2 ^ k := by
    have := x.toNat_lt
    unfold shrU
    rw [Int.toNat_natCast, Nat.min_eq_left (by omega), UInt64.toNat_ofNat']
    exact Nat.mod_eq_of_lt (Nat.lt_of_le_of_lt (Nat.div_le_self _ _) this)
  have h2 : (shrU x (k : Int) &&& 1).toNat = x.toNat / 2 ^ k % 2 := by
    rw [UInt64.toNat_and, h1]
    exact Nat.and_one_is_mod _
  rw [Nat.testBit_eq_decide_div_mod_eq]
  rw [← h2]
  have h3 : (shrU x (k : Int) &&& 1 == 1) = decide ((shrU x (k : Int) &&& 1) = 1) := rfl
  rw [h3]
  have : ((shrU x (k : Int) &&& 1) = 1) ↔ (shrU x (k : Int) &&& 1).toNat = 1 := ⟨fun h => by rw [h]; rfl, fun h => UInt64.toNat.inj (by rw [h]; rfl)⟩
  exact decide_eq_decide.2 this
theorem quoZ_nat (n : Nat) (h : n < 576460752303423488) : quoZ ((n : Int) + 1) = ((n / 64 : Nat) : Int) := by
  unfold quoZ
  rw [show (n : Int) + 1 - 1 = n by omega, IntWalk.i64_in (n : Int) (by omega), show ((n : Int)).tdiv 64 = ((n / 64 : Nat) : Int) by rw [Int.tdiv_eq_ediv_of_nonneg (by omega)]; omega, IntWalk.i64_in _ (by omega)]
theorem bitZ_nat (e : List UInt64) (n : Nat) (h : n < 576460752303423488) : bitZ e ((n : Int) + 1) = bitAt e n := by
  unfold bitZ bitAt
  rw [quoZ_nat n h]
  have h1 : (remZ ((n : Int) + 1)).toNat = n % 64 := by
    unfold remZ
    rw [show (n : Int) + 1 - 1 = n by omega, IntWalk.i64_in (n : Int) (by omega), show ((n : Int)).tmod 64 = ((n % 64 : Nat) : Int) by rw [Int.tmod_eq_emod_of_nonneg (by omega)]; omega]
    rw [show (((n % 64 : Nat) : Int) % 18446744073709551616).toNat = n % 64 by omega, UInt64.toNat_ofNat']
    omega
  rw [h1, shr_bit _ _ (by omega)]
  simp only [Nat.zero_add, Nat.mul_one, Int.toNat_natCast]
def powAt (x : Fp) (e : List UInt64) : Nat → Fp → Fp
  | 0, o => lowF o
  | n + 1, o => powAt x e n (match bitAt e n with | true => halfF (halfF o o) x | false => halfF o o)
def powF (a : Fp) (e : List UInt64) : Fp := powAt (wholeF a) e (64 * e.length) (wholeF oneFp)
abbrev PowOk (a : Fp) (e : List UInt64) : Type := { q : Int × Fp // 0 ≤ q.1 ∧ q.1 ≤ 64 * e.length ∧ powAt (wholeF a) e q.1.toNat q.2 = powF a e }
def powI (a : Fp) (e : List UInt64) (q : PowOk a e) : St := powSt e (wholeF a) q.1.2 q.1.1
theorem pow_ok : CallOk Try.prog 135 (K2 (kRow Fp).arg aL rF.res powF) :=
  G2 (E := En (tPow wholeF halfF lowF)) Try.func135 (c := codeOf Try.f135) (by kernel_rfl) (bodied Try.func135 (by kernel_rfl) (by kernel_rfl)) (kRow Fp).inp iL oF powF fun a e _ he => by
    have hE : EnvOk (En (tPow wholeF halfF lowF)) := En_ok (.cons whole_ok (.cons half_ok (.cons low_ok .nil)))
    have he : e.length < 1125899906842624 := he
    have hw : IntKind.i64.wrap (64 * (e.length : Int)) = 64 * (e.length : Int) := IntWalk.i64_in _ (by omega)
    refine DoesL.stageE hE 100 1 [1, 2, 4] [0, 1, 2] (pow_front _ a e) ?_
    refine DoesL.scopeFn (body := scopeOf Try.f135) (rest := restOf Try.f135) (tail := []) (l := 0) hE (by kernel_rfl) (by kernel_rfl) 100 3 (by kernel_rfl) [1, 4, 5, 6, 7] [0, 2, 3, 4] (powI a e) (fun q => q.1.1.toNat)
      ⟨(64 * (e.length : Int), wholeF oneFp), by simp only []; omega, by simp only []; omega, by rw [show ((64 * (e.length : Int), wholeF oneFp) : Int × Fp).1.toNat = 64 * e.length by simp only []; omega]; simp only [powF]⟩
      (pow_start halfF wholeF lowF a e) ⟨⟨by rw [cells_len]; omega, by decide⟩, fun _ => by rw [hw]; exact Tree.sat_leaf (by simp only [powI])⟩ fun q => ?_
    obtain ⟨⟨z, o⟩, h0, h1, h2⟩ := q
    simp only [] at h0 h1 h2
    have hz : IntKind.i64.wrap (z - 1) = z - 1 := IntWalk.i64_in _ (by omega)
    refine DoesL.iter hE 100 [1, 4, 5, 6, 7] [0, 1, 2, 3] (pow_iter halfF wholeF lowF (wholeF a) o e z) ?_
    rw [hz]
    refine ⟨fun h => ?_, fun h => ?_⟩
    · simp only [decide_eq_true_eq] at h
      obtain rfl : z = 0 := by omega
      exact ⟨.t, by rw [← h2]; rfl, trivial⟩
    · simp only [decide_eq_false_iff_not] at h
      obtain ⟨n, rfl⟩ : ∃ n : Nat, z = (n : Int) + 1 := ⟨(z - 1).toNat, by omega⟩
      rw [quoZ_nat n (by omega), bitZ_nat e n (by omega)]
      rw [show ((n : Int) + 1).toNat = n + 1 by omega] at h2
      simp only [powAt] at h2
      refine ⟨⟨⟨by omega, by omega⟩, by rw [cells_len]; omega, by decide⟩, fun _ => ⟨by omega, fun _ => ⟨fun h3 => ?_, fun h3 => ?_⟩⟩⟩
      all_goals
        have hn : ((n : Int) + 1 - 1).toNat = n := by omega
        rw [h3] at h2
        simp only [] at h2
      · refine ⟨rfl, ⟨((n : Int) + 1 - 1, halfF (halfF o o) (wholeF a)), ?_, ?_, ?_⟩, ?_, by simp only [powI]⟩
        · show 0 ≤ (n : Int) + 1 - 1; omega
        · show (n : Int) + 1 - 1 ≤ 64 * e.length; omega
        · simpa only [hn] using h2
        · show ((n : Int) + 1 - 1).toNat < ((n : Int) + 1).toNat; omega
      · refine ⟨rfl, ⟨((n : Int) + 1 - 1, halfF o o), ?_, ?_, ?_⟩, ?_, by simp only [powI]⟩
        · show 0 ≤ (n : Int) + 1 - 1; omega
        · show (n : Int) + 1 - 1 ≤ 64 * e.length; omega
        · simpa only [hn] using h2
        · show ((n : Int) + 1 - 1).toNat < ((n : Int) + 1).toNat; omega
end Go.Proofs.Ytchlamfdofpolaa
set_option linter.unusedSimpArgs false
set_option linter.unusedVariables false
namespace Go.Proofs.Ytchlamfdofpolaa
open Go.RowKit
abbrev rFI : Rs (Fp × Int) := (kRow Fp).rs2 kInt
abbrev Kpow (pF : Fp → List UInt64 → Fp) : Contract := K2 (kRow Fp).arg aL rF.res pF
def fpEq (a b : Fp) : Bool := a.l0 == b.l0 && (a.l1 == b.l1 && (a.l2 == b.l2 && (a.l3 == b.l3 && (a.l4 == b.l4 && (a.l5 == b.l5 && true)))))
theorem fpEq_iff (a b : Fp) : fpEq a b = true ↔ a = b := by
  cases a; cases b
  simp [fpEq]
def invF (a : Fp) : Fp × Int := match fpEq a zeroFp with | true => (a, 7) | false => (powF a [pLimbs.l0 - 2, pLimbs.l1, pLimbs.l2, pLimbs.l3, pLimbs.l4, pLimbs.l5], 0)
theorem inv_run (pF : Fp → List UInt64 → Fp) (m a : Fp) : plainRun (En [(114, Kc m), (135, Kpow pF)]) rFI 100 Try.f100 [vF a] =
    .br (fpEq a zeroFp) (.leaf (some (a, 7))) (.leaf (some (pF a [m.l0 - 2, m.l1, m.l2, m.l3, m.l4, m.l5], 0))) := by kernel_rfl
theorem inv_ok : CallOk Try.prog 100 (K1 (kRow Fp).arg rFI.res invF) := P1 (En_ok (.cons modulus_ok (.cons pow_ok .nil))) Try.func100 (bodied Try.func100 (by kernel_rfl) (by kernel_rfl)) 100 (kRow Fp) rFI invF (inv_run powF pLimbs)
  (fun a => ⟨fun h => congrArg some (by simp only [invF, h]), fun h => congrArg some (by simp only [invF, h])⟩)
end Go.Proofs.Ytchlamfdofpolaa
set_option linter.unusedSimpArgs false
set_option linter.unusedVariables false
namespace Go.Proofs.Ytchlamfdofpolaa
open Go.RowKit
noncomputable abbrev Ens (T : Table) (ns : List Nat) : Env := mkEnv Try.prog T ns
theorem Ens_ok {T : Table} {ns : List Nat} (h : TableOk Try.prog T) : EnvOk (Ens T ns) := mkEnv_ok follows_mixed h
abbrev oS (ty : TypeId) : Out Fp := outSlR Fp ty 6 (fun _ => rfl)
abbrev iS : Inp Fp := inpSlR Fp 6 (fun _ => rfl)
abbrev aS : Arg Fp := argSlR Fp
abbrev rS (ty : TypeId) : Res Fp := resSlR Fp ty 6 (fun _ => rfl)
abbrev oB : Out Bool := kBool.rs.out
theorem refP_run : endT (En []) (oS 22) 100 Try.f116 (flat (codeOf Try.f116)) (startSt Try.f116 [] []) = .leaf (some (pLimbs, .t)) := by kernel_rfl
theorem refP_ok : CallOk Try.prog 116 (K0 (rS 22) pLimbs) :=
  G0 (E := En []) Try.func116 (c := codeOf Try.f116) (by kernel_rfl) (bodied Try.func116 (by kernel_rfl) (by kernel_rfl)) (oS 22) pLimbs (DoesL.ends (En_ok .nil) 100 refP_run ⟨.t, rfl, trivial⟩)
def belowF (a m : Fp) : Bool :=
  match a.l5 != m.l5 with
  | true => decide (a.l5 < m.l5)
  | false => match a.l4 != m.l4 with
    | true => decide (a.l4 < m.l4)
    | false => match a.l3 != m.l3 with
      | true => decide (a.l3 < m.l3)
      | false => match a.l2 != m.l2 with
        | true => decide (a.l2 < m.l2)
        | false => match a.l1 != m.l1 with
          | true => decide (a.l1 < m.l1)
          | false => match a.l0 != m.l0 with
            | true => decide (a.l0 < m.l0)
            | false => false
def lfB (b : Bool) : Tree (Option (Bool × Pr)) := .leaf (some (b, .t))
def belowT (a m : Fp) : Tree (Option (Bool × Pr)) :=
  .br (a.l5 != m.l5) (lfB (decide (a.l5 < m.l5))) (.br (a.l4 != m.l4) (lfB (decide (a.l4 < m.l4))) (.br (a.l3 != m.l3) (lfB (decide (a.l3 < m.l3)))
    (.br (a.l2 != m.l2) (lfB (decide (a.l2 < m.l2))) (.br (a.l1 != m.l1) (lfB (decide (a.l1 < m.l1))) (.br (a.l0 != m.l0) (lfB (decide (a.l0 < m.l0))) (lfB false))))))
theorem below_run (a m : Fp) : endT (En []) oB 100 Try.f53 (flat (codeOf Try.f53)) (startSt Try.f53 [iS.av 0 a, iS.av 1 m] (iS.hes a ++ iS.hes m)) = belowT a m := by kernel_rfl
theorem belowT_sat (a m : Fp) : (belowT a m).sat fun q => ∃ p, q = some (belowF a m, p) ∧ p.holds := by
  unfold belowF
  refine ⟨fun h => ?_, fun h => ?_⟩ <;> rw [h]
  · exact ⟨.t, rfl, trivial⟩
  refine ⟨fun h => ?_, fun h => ?_⟩ <;> rw [h]
  · exact ⟨.t, rfl, trivial⟩
  refine ⟨fun h => ?_, fun h => ?_⟩ <;> rw [h]
  · exact ⟨.t, rfl, trivial⟩
  refine ⟨fun h => ?_, fun h => ?_⟩ <;> rw [h]
  · exact ⟨.t, rfl, trivial⟩
  refine ⟨fun h => ?_, fun h => ?_⟩ <;> rw [h]
  · exact ⟨.t, rfl, trivial⟩
  refine ⟨fun h => ?_, fun h => ?_⟩ <;> rw [h]
  · exact ⟨.t, rfl, trivial⟩
  · exact ⟨.t, rfl, trivial⟩
theorem below_ok : CallOk Try.prog 53 (K2 aS aS oB.res belowF) :=
  G2 (E := En []) Try.func53 (c := codeOf Try.f53) (by kernel_rfl) (bodied Try.func53 (by kernel_rfl) (by kernel_rfl)) iS iS oB belowF fun a m _ _ => DoesL.ends (En_ok .nil) 100 (below_run a m) (belowT_sat a m)
end Go.Proofs.Ytchlamfdofpolaa
set_option linter.unusedSimpArgs false
set_option linter.unusedVariables false
namespace Go.Proofs.Ytchlamfdofpolaa
open Go.RowKit
abbrev Kfb (F : Fp → Bool) : Contract := K1 (kRow Fp).arg kBool.rs.res F
abbrev Kinv (iF : Fp → Fp × Int) : Contract := K1 (kRow Fp).arg rFI.res iF
abbrev Kof (oF' : UInt64 → Fp) : Contract := K1 kU64.arg rF.res oF'
end Go.Proofs.Ytchlamfdofpolaa

set_option linter.unusedSimpArgs false
set_option linter.unusedVariables false
namespace Go.Proofs.Ytchlamfdofpolaa
open Go.RowKit
def zeroFp2 : Fp2 := ⟨zeroFp, zeroFp⟩
def oneFp2 : Fp2 := ⟨oneFp, zeroFp⟩
def fp2Eq (a b : Fp2) : Bool := fpEq a.c0 b.c0 && (fpEq a.c1 b.c1 && true)
theorem fp2Eq_iff (a b : Fp2) : fp2Eq a b = true ↔ a = b := by
  unfold fp2Eq
  rw [Bool.and_true, Bool.and_eq_true, fpEq_iff, fpEq_iff]
  cases a; cases b
  simp
def zeroFp6 : Fp6 := ⟨zeroFp2, zeroFp2, zeroFp2⟩
structure Fp12 where
  c0 : Fp6
  c1 : Fp6
def Fp12.rd (xs : List Cell) : Option Fp12 := match (Row.rd (xs.take 36) : Option Fp6), (Row.rd (xs.drop 36) : Option Fp6) with
  | some a, some b => some ⟨a, b⟩
  | _, _ => none
instance : Row Fp12 where
  rd := Fp12.rd
  cs := fun x => Row.cs x.c0 ++ Row.cs x.c1
  rd_ok := fun {xs x} h β => by
    unfold Fp12.rd at h
    split at h
    · rename_i a b h1 h2
      cases h
      exact two_rows 36 h1 h2 β
    · cases h
  cs_ok := fun x β => by rw [List.map_append, List.map_append, Row.cs_ok x.c0, Row.cs_ok x.c1]
  cs_id := fun x c hc => by
    rcases List.mem_append.1 hc with h | h
    · exact Row.cs_id _ c h
    · exact Row.cs_id _ c h
end Go.Proofs.Ytchlamfdofpolaa

set_option linter.unusedSimpArgs false
set_option linter.unusedVariables false
namespace Go.Proofs.Ytchlamfdofpolaa
open Go.RowKit
def mayF2_G (f0 : Fp → Bool) (a : Fp2) : Bool := (match (f0 a.c0) with | true => ((f0 a.c1)) | false => ((false)))
def mayF2_T (f0 : Fp → Bool) (a : Fp2) : Tree (Option (Bool)) :=
  (.br (f0 a.c0)
    (.leaf (some ((f0 a.c1))))
    (.leaf (some ((false)))))
theorem mayF2_run (f0 : Fp → Bool) (a : Fp2) : plainRun (En [(65, Kfb f0)]) kBool.rs 300 Try.f89 [.one ((kRow Fp2).av a)] = mayF2_T f0 a := by kernel_rfl
theorem mayF2_sat (f0 : Fp → Bool) (a : Fp2) : (mayF2_T f0 a).sat fun q => q = some (mayF2_G f0 a) := ⟨fun h0 => (show some _ = some _ from congrArg some (by unfold mayF2_G; rw [h0])), fun h0 => (show some _ = some _ from congrArg some (by unfold mayF2_G; rw [h0]))⟩
def mayF2 (a : Fp2) : Bool := mayF2_G mayF a
theorem mayF2_ok : CallOk Try.prog 89 (K1 (kRow Fp2).arg kBool.rs.res mayF2) :=
  P1 (En_ok (.cons may_ok .nil)) Try.func89 (bodied Try.func89 (by kernel_rfl) (by kernel_rfl)) 300 (kRow Fp2) kBool.rs mayF2 (mayF2_run mayF) (mayF2_sat mayF)
def addF2_G (f0 : Fp → Fp → Fp) (a : Fp2) (b : Fp2) : Fp2 := ({ c0 := f0 a.c0 b.c0, c1 := f0 a.c1 b.c1 })
def addF2_T (f0 : Fp → Fp → Fp) (a : Fp2) (b : Fp2) : Tree (Option (Fp2)) :=
  (.leaf (some ({ c0 := f0 a.c0 b.c0, c1 := f0 a.c1 b.c1 })))
theorem addF2_run (f0 : Fp → Fp → Fp) (a : Fp2) (b : Fp2) : plainRun (En [(104, Kff f0)]) (kRow Fp2).rs 300 Try.f131 [.one ((kRow Fp2).av a), .one ((kRow Fp2).av b)] = addF2_T f0 a b := by kernel_rfl
theorem addF2_sat (f0 : Fp → Fp → Fp) (a : Fp2) (b : Fp2) : (addF2_T f0 a b).sat fun q => q = some (addF2_G f0 a b) := (show some _ = some _ from rfl)
def addF2 (a : Fp2) (b : Fp2) : Fp2 := addF2_G addF a b
theorem addF2_ok : CallOk Try.prog 131 (K2 (kRow Fp2).arg (kRow Fp2).arg (kRow Fp2).rs.res addF2) :=
  P2 (En_ok (.cons add_ok .nil)) Try.func131 (bodied Try.func131 (by kernel_rfl) (by kernel_rfl)) 300 (kRow Fp2) (kRow Fp2) (kRow Fp2).rs addF2 (addF2_run addF) (addF2_sat addF)
def subF2_G (f0 : Fp → Fp → Fp) (a : Fp2) (b : Fp2) : Fp2 := ({ c0 := f0 a.c0 b.c0, c1 := f0 a.c1 b.c1 })
def subF2_T (f0 : Fp → Fp → Fp) (a : Fp2) (b : Fp2) : Tree (Option (Fp2)) :=
  (.leaf (some ({ c0 := f0 a.c0 b.c0, c1 := f0 a.c1 b.c1 })))
theorem subF2_run (f0 : Fp → Fp → Fp) (a : Fp2) (b : Fp2) : plainRun (En [(103, Kff f0)]) (kRow Fp2).rs 300 Try.f130 [.one ((kRow Fp2).av a), .one ((kRow Fp2).av b)] = subF2_T f0 a b := by kernel_rfl
theorem subF2_sat (f0 : Fp → Fp → Fp) (a : Fp2) (b : Fp2) : (subF2_T f0 a b).sat fun q => q = some (subF2_G f0 a b) := (show some _ = some _ from rfl)
def subF2 (a : Fp2) (b : Fp2) : Fp2 := subF2_G subF a b
theorem subF2_ok : CallOk Try.prog 130 (K2 (kRow Fp2).arg (kRow Fp2).arg (kRow Fp2).rs.res subF2) :=
  P2 (En_ok (.cons sub_ok .nil)) Try.func130 (bodied Try.func130 (by kernel_rfl) (by kernel_rfl)) 300 (kRow Fp2) (kRow Fp2) (kRow Fp2).rs subF2 (subF2_run subF) (subF2_sat subF)
def negF2_G (f0 : Fp → Fp) (a : Fp2) : Fp2 := ({ c0 := f0 a.c0, c1 := f0 a.c1 })
def negF2_T (f0 : Fp → Fp) (a : Fp2) : Tree (Option (Fp2)) :=
  (.leaf (some ({ c0 := f0 a.c0, c1 := f0 a.c1 })))
theorem negF2_run (f0 : Fp → Fp) (a : Fp2) : plainRun (En [(61, Kf f0)]) (kRow Fp2).rs 300 Try.f86 [.one ((kRow Fp2).av a)] = negF2_T f0 a := by kernel_rfl
theorem negF2_sat (f0 : Fp → Fp) (a : Fp2) : (negF2_T f0 a).sat fun q => q = some (negF2_G f0 a) := (show some _ = some _ from rfl)
def negF2 (a : Fp2) : Fp2 := negF2_G negF a
theorem negF2_ok : CallOk Try.prog 86 (K1 (kRow Fp2).arg (kRow Fp2).rs.res negF2) :=
  P1 (En_ok (.cons neg_ok .nil)) Try.func86 (bodied Try.func86 (by kernel_rfl) (by kernel_rfl)) 300 (kRow Fp2) (kRow Fp2).rs negF2 (negF2_run negF) (negF2_sat negF)
def halfF2_G (f0 : Fp → Fp → Fp) (f1 : Fp → Fp → Fp) (f2 : Fp → Fp → Fp) (a : Fp2) (b : Fp2) : Fp2 := ({ c0 := f2 (f0 a.c0 b.c0) (f0 a.c1 b.c1), c1 := f2 (f0 (f1 a.c0 a.c1) (f1 b.c0 b.c1)) (f1 (f0 a.c0 b.c0) (f0 a.c1 b.c1)) })
def halfF2_T (f0 : Fp → Fp → Fp) (f1 : Fp → Fp → Fp) (f2 : Fp → Fp → Fp) (a : Fp2) (b : Fp2) : Tree (Option (Fp2)) :=
  (.leaf (some ({ c0 := f2 (f0 a.c0 b.c0) (f0 a.c1 b.c1), c1 := f2 (f0 (f1 a.c0 a.c1) (f1 b.c0 b.c1)) (f1 (f0 a.c0 b.c0) (f0 a.c1 b.c1)) })))
theorem halfF2_run (f0 : Fp → Fp → Fp) (f1 : Fp → Fp → Fp) (f2 : Fp → Fp → Fp) (a : Fp2) (b : Fp2) : plainRun (En [(102, Kff f0), (104, Kff f1), (103, Kff f2)]) (kRow Fp2).rs 300 Try.f129 [.one ((kRow Fp2).av a), .one ((kRow Fp2).av b)] = halfF2_T f0 f1 f2 a b := by kernel_rfl
theorem halfF2_sat (f0 : Fp → Fp → Fp) (f1 : Fp → Fp → Fp) (f2 : Fp → Fp → Fp) (a : Fp2) (b : Fp2) : (halfF2_T f0 f1 f2 a b).sat fun q => q = some (halfF2_G f0 f1 f2 a b) := (show some _ = some _ from rfl)
def halfF2 (a : Fp2) (b : Fp2) : Fp2 := halfF2_G halfF addF subF a b
theorem halfF2_ok : CallOk Try.prog 129 (K2 (kRow Fp2).arg (kRow Fp2).arg (kRow Fp2).rs.res halfF2) :=
  P2 (En_ok (.cons half_ok (.cons add_ok (.cons sub_ok .nil)))) Try.func129 (bodied Try.func129 (by kernel_rfl) (by kernel_rfl)) 300 (kRow Fp2) (kRow Fp2) (kRow Fp2).rs halfF2 (halfF2_run halfF addF subF) (halfF2_sat halfF addF subF)
def wholeF2_G (f0 : Fp → Fp) (a : Fp2) : Fp2 := ({ c0 := f0 a.c0, c1 := f0 a.c1 })
def wholeF2_T (f0 : Fp → Fp) (a : Fp2) : Tree (Option (Fp2)) :=
  (.leaf (some ({ c0 := f0 a.c0, c1 := f0 a.c1 })))
theorem wholeF2_run (f0 : Fp → Fp) (a : Fp2) : plainRun (En [(105, Kf f0)]) (kRow Fp2).rs 300 Try.f132 [.one ((kRow Fp2).av a)] = wholeF2_T f0 a := by kernel_rfl
theorem wholeF2_sat (f0 : Fp → Fp) (a : Fp2) : (wholeF2_T f0 a).sat fun q => q = some (wholeF2_G f0 a) := (show some _ = some _ from rfl)
def wholeF2 (a : Fp2) : Fp2 := wholeF2_G wholeF a
theorem wholeF2_ok : CallOk Try.prog 132 (K1 (kRow Fp2).arg (kRow Fp2).rs.res wholeF2) :=
  P1 (En_ok (.cons whole_ok .nil)) Try.func132 (bodied Try.func132 (by kernel_rfl) (by kernel_rfl)) 300 (kRow Fp2) (kRow Fp2).rs wholeF2 (wholeF2_run wholeF) (wholeF2_sat wholeF)
def lowF2_G (f0 : Fp → Fp) (a : Fp2) : Fp2 := ({ c0 := f0 a.c0, c1 := f0 a.c1 })
def lowF2_T (f0 : Fp → Fp) (a : Fp2) : Tree (Option (Fp2)) :=
  (.leaf (some ({ c0 := f0 a.c0, c1 := f0 a.c1 })))
theorem lowF2_run (f0 : Fp → Fp) (a : Fp2) : plainRun (En [(101, Kf f0)]) (kRow Fp2).rs 300 Try.f128 [.one ((kRow Fp2).av a)] = lowF2_T f0 a := by kernel_rfl
theorem lowF2_sat (f0 : Fp → Fp) (a : Fp2) : (lowF2_T f0 a).sat fun q => q = some (lowF2_G f0 a) := (show some _ = some _ from rfl)
def lowF2 (a : Fp2) : Fp2 := lowF2_G lowF a
theorem lowF2_ok : CallOk Try.prog 128 (K1 (kRow Fp2).arg (kRow Fp2).rs.res lowF2) :=
  P1 (En_ok (.cons low_ok .nil)) Try.func128 (bodied Try.func128 (by kernel_rfl) (by kernel_rfl)) 300 (kRow Fp2) (kRow Fp2).rs lowF2 (lowF2_run lowF) (lowF2_sat lowF)
def mulF2_G (f0 : Fp2 → Fp2 → Fp2) (f1 : Fp2 → Fp2) (a : Fp2) (b : Fp2) : Fp2 := (f1 (f0 a b))
def mulF2_T (f0 : Fp2 → Fp2 → Fp2) (f1 : Fp2 → Fp2) (a : Fp2) (b : Fp2) : Tree (Option (Fp2)) :=
  (.leaf (some (f1 (f0 a b))))
theorem mulF2_run (f0 : Fp2 → Fp2 → Fp2) (f1 : Fp2 → Fp2) (a : Fp2) (b : Fp2) : plainRun (En [(129, K2 (kRow Fp2).arg (kRow Fp2).arg (kRow Fp2).rs.res f0), (132, K1 (kRow Fp2).arg (kRow Fp2).rs.res f1)]) (kRow Fp2).rs 300 Try.f90 [.one ((kRow Fp2).av a), .one ((kRow Fp2).av b)] = mulF2_T f0 f1 a b := by kernel_rfl
theorem mulF2_sat (f0 : Fp2 → Fp2 → Fp2) (f1 : Fp2 → Fp2) (a : Fp2) (b : Fp2) : (mulF2_T f0 f1 a b).sat fun q => q = some (mulF2_G f0 f1 a b) := (show some _ = some _ from rfl)
def mulF2 (a : Fp2) (b : Fp2) : Fp2 := mulF2_G halfF2 wholeF2 a b
theorem mulF2_ok : CallOk Try.prog 90 (K2 (kRow Fp2).arg (kRow Fp2).arg (kRow Fp2).rs.res mulF2) :=
  P2 (En_ok (.cons halfF2_ok (.cons wholeF2_ok .nil))) Try.func90 (bodied Try.func90 (by kernel_rfl) (by kernel_rfl)) 300 (kRow Fp2) (kRow Fp2) (kRow Fp2).rs mulF2 (mulF2_run halfF2 wholeF2) (mulF2_sat halfF2 wholeF2)
def conjF2_G (f0 : Fp → Fp) (a : Fp2) : Fp2 := ({ c0 := a.c0, c1 := f0 a.c1 })
def conjF2_T (f0 : Fp → Fp) (a : Fp2) : Tree (Option (Fp2)) :=
  (.leaf (some ({ c0 := a.c0, c1 := f0 a.c1 })))
theorem conjF2_run (f0 : Fp → Fp) (a : Fp2) : plainRun (En [(61, Kf f0)]) (kRow Fp2).rs 300 Try.f148 [.one ((kRow Fp2).av a)] = conjF2_T f0 a := by kernel_rfl
theorem conjF2_sat (f0 : Fp → Fp) (a : Fp2) : (conjF2_T f0 a).sat fun q => q = some (conjF2_G f0 a) := (show some _ = some _ from rfl)
def conjF2 (a : Fp2) : Fp2 := conjF2_G negF a
theorem conjF2_ok : CallOk Try.prog 148 (K1 (kRow Fp2).arg (kRow Fp2).rs.res conjF2) :=
  P1 (En_ok (.cons neg_ok .nil)) Try.func148 (bodied Try.func148 (by kernel_rfl) (by kernel_rfl)) 300 (kRow Fp2) (kRow Fp2).rs conjF2 (conjF2_run negF) (conjF2_sat negF)
def normF2_G (f0 : Fp → Fp → Fp) (f1 : Fp → Fp → Fp) (a : Fp2) : Fp := (f0 (f1 a.c0 a.c0) (f1 a.c1 a.c1))
def normF2_T (f0 : Fp → Fp → Fp) (f1 : Fp → Fp → Fp) (a : Fp2) : Tree (Option (Fp)) :=
  (.leaf (some (f0 (f1 a.c0 a.c0) (f1 a.c1 a.c1))))
theorem normF2_run (f0 : Fp → Fp → Fp) (f1 : Fp → Fp → Fp) (a : Fp2) : plainRun (En [(104, Kff f0), (66, Kff f1)]) (kRow Fp).rs 300 Try.f146 [.one ((kRow Fp2).av a)] = normF2_T f0 f1 a := by kernel_rfl
theorem normF2_sat (f0 : Fp → Fp → Fp) (f1 : Fp → Fp → Fp) (a : Fp2) : (normF2_T f0 f1 a).sat fun q => q = some (normF2_G f0 f1 a) := (show some _ = some _ from rfl)
def normF2 (a : Fp2) : Fp := normF2_G addF mulF a
theorem normF2_ok : CallOk Try.prog 146 (K1 (kRow Fp2).arg (kRow Fp).rs.res normF2) :=
  P1 (En_ok (.cons add_ok (.cons mul_ok .nil))) Try.func146 (bodied Try.func146 (by kernel_rfl) (by kernel_rfl)) 300 (kRow Fp2) (kRow Fp).rs normF2 (normF2_run addF mulF) (normF2_sat addF mulF)
def scaledF2_G (f0 : Fp → Fp → Fp) (a : Fp2) (k : Fp) : Fp2 := ({ c0 := f0 a.c0 k, c1 := f0 a.c1 k })
def scaledF2_T (f0 : Fp → Fp → Fp) (a : Fp2) (k : Fp) : Tree (Option (Fp2)) :=
  (.leaf (some ({ c0 := f0 a.c0 k, c1 := f0 a.c1 k })))
theorem scaledF2_run (f0 : Fp → Fp → Fp) (a : Fp2) (k : Fp) : plainRun (En [(66, Kff f0)]) (kRow Fp2).rs 300 Try.f147 [.one ((kRow Fp2).av a), .one ((kRow Fp).av k)] = scaledF2_T f0 a k := by kernel_rfl
theorem scaledF2_sat (f0 : Fp → Fp → Fp) (a : Fp2) (k : Fp) : (scaledF2_T f0 a k).sat fun q => q = some (scaledF2_G f0 a k) := (show some _ = some _ from rfl)
def scaledF2 (a : Fp2) (k : Fp) : Fp2 := scaledF2_G mulF a k
theorem scaledF2_ok : CallOk Try.prog 147 (K2 (kRow Fp2).arg (kRow Fp).arg (kRow Fp2).rs.res scaledF2) :=
  P2 (En_ok (.cons mul_ok .nil)) Try.func147 (bodied Try.func147 (by kernel_rfl) (by kernel_rfl)) 300 (kRow Fp2) (kRow Fp) (kRow Fp2).rs scaledF2 (scaledF2_run mulF) (scaledF2_sat mulF)
def invF2_G (f0 : Fp → Fp × Int) (f1 : Fp2 → Fp) (f2 : Fp2 → Fp → Fp2) (f3 : Fp2 → Fp2) (a : Fp2) : Fp2 × Int := (match ((f0 (f1 a)).snd != 0) with | true => ((zeroFp2, (f0 (f1 a)).snd)) | false => ((f2 (f3 a) (f0 (f1 a)).fst, 0)))
def invF2_T (f0 : Fp → Fp × Int) (f1 : Fp2 → Fp) (f2 : Fp2 → Fp → Fp2) (f3 : Fp2 → Fp2) (a : Fp2) : Tree (Option (Fp2 × Int)) :=
  (.br ((f0 (f1 a)).snd != 0)
    (.leaf (some ((zeroFp2, (f0 (f1 a)).snd))))
    (.leaf (some ((f2 (f3 a) (f0 (f1 a)).fst, 0)))))
theorem invF2_run (f0 : Fp → Fp × Int) (f1 : Fp2 → Fp) (f2 : Fp2 → Fp → Fp2) (f3 : Fp2 → Fp2) (a : Fp2) : plainRun (En [(100, Kinv f0), (146, K1 (kRow Fp2).arg (kRow Fp).rs.res f1), (147, K2 (kRow Fp2).arg (kRow Fp).arg (kRow Fp2).rs.res f2), (148, K1 (kRow Fp2).arg (kRow Fp2).rs.res f3)]) ((kRow Fp2).rs2 kInt) 300 Try.f127 [.one ((kRow Fp2).av a)] = invF2_T f0 f1 f2 f3 a := by kernel_rfl
theorem invF2_sat (f0 : Fp → Fp × Int) (f1 : Fp2 → Fp) (f2 : Fp2 → Fp → Fp2) (f3 : Fp2 → Fp2) (a : Fp2) : (invF2_T f0 f1 f2 f3 a).sat fun q => q = some (invF2_G f0 f1 f2 f3 a) := ⟨fun h0 => (show some _ = some _ from congrArg some (by unfold invF2_G; rw [h0])), fun h0 => (show some _ = some _ from congrArg some (by unfold invF2_G; rw [h0]))⟩
def invF2 (a : Fp2) : Fp2 × Int := invF2_G invF normF2 scaledF2 conjF2 a
theorem invF2_ok : CallOk Try.prog 127 (K1 (kRow Fp2).arg ((kRow Fp2).rs2 kInt).res invF2) :=
  P1 (En_ok (.cons inv_ok (.cons normF2_ok (.cons scaledF2_ok (.cons conjF2_ok .nil))))) Try.func127 (bodied Try.func127 (by kernel_rfl) (by kernel_rfl)) 300 (kRow Fp2) ((kRow Fp2).rs2 kInt) invF2 (invF2_run invF normF2 scaledF2 conjF2) (invF2_sat invF normF2 scaledF2 conjF2)
end Go.Proofs.Ytchlamfdofpolaa

set_option linter.unusedSimpArgs false
set_option linter.unusedVariables false
namespace Go.Proofs.Ytchlamfdofpolaa
open Go.RowKit
abbrev rL : Res (List UInt64) := resSl eU64 22
abbrev oL : Out (List UInt64) := outSl eU64 22
abbrev short (xs : List UInt64) : Prop := xs.length < 1099511627776
abbrev aLc : Arg (List UInt64) := aL.such short
abbrev iLc : Inp (List UInt64) := iL.such short
abbrev tiny (xs : List UInt64) : Prop := xs.length < 4294967296
abbrev aLt : Arg (List UInt64) := aL.such tiny
abbrev iLt : Inp (List UInt64) := iL.such tiny
theorem u64_len (xs : List UInt64) : (List.map EK.u64.cell xs).length = xs.length := List.length_map ..
theorem limb_run (xs : List UInt64) (i : Nat) : endT (En []) oU 100 Try.f143 (flat (codeOf Try.f143)) (startSt Try.f143 [iL.av 0 xs, inpNat.av 1 i] [inHE eU64 xs]) =
  (.vc (0 + xs.length * 1 ≤ (List.map EK.u64.cell xs).length ∧ 0 < 1)
    (.br (decide ((↑i : Int) < (↑xs.length : Int)))
      (.vc ((0 ≤ (↑i : Int) ∧ (↑i : Int) < (↑xs.length : Int)) ∧ 0 + xs.length * 1 ≤ (List.map EK.u64.cell xs).length ∧ 0 < 1)
        (.vc (0 + (↑i : Int).toNat * 1 < xs.length)
          (.leaf (some ((xs.getD (0 + (↑i : Int).toNat * 1) 0, .t))))))
      (.leaf (some ((UInt64.ofNat 0, .t)))))) := by kernel_rfl
theorem limb_ok : CallOk Try.prog 143 (K2 aL argNat kU64.rs.res atF) :=
  G2 (E := En []) Try.func143 (c := codeOf Try.f143) (by kernel_rfl) (bodied Try.func143 (by kernel_rfl) (by kernel_rfl)) iL inpNat oU atF fun xs i _ _ => by
    refine DoesL.ends (En_ok .nil) 100 (limb_run xs i) ⟨⟨by rw [u64_len]; omega, by decide⟩, fun _ => ⟨fun h => ?_, fun h => ?_⟩⟩
    · simp only [decide_eq_true_eq] at h
      refine ⟨⟨⟨by omega, h⟩, by rw [u64_len]; omega, by decide⟩, fun _ => ⟨by omega, fun _ => ⟨.t, ?_, trivial⟩⟩⟩
      simp [atF]
    · simp only [decide_eq_false_iff_not] at h
      refine ⟨.t, ?_, trivial⟩
      have : xs.length ≤ i := by omega
      simp [atF, List.getElem?_eq_none this]
theorem bit_run (xs : List UInt64) (i : Nat) : endT (En []) oU 100 Try.f142 (flat (codeOf Try.f142)) (startSt Try.f142 [iL.av 0 xs, inpNat.av 1 i] [inHE eU64 xs]) =
  (.vc (0 + xs.length * 1 ≤ (List.map EK.u64.cell xs).length ∧ 0 < 1)
    (.br (decide (IntKind.i64.wrap ((↑i : Int).tdiv 64) ≥ (↑xs.length : Int)))
      (.leaf (some ((UInt64.ofNat 0, .t))))
      (.vc ((0 ≤ IntKind.i64.wrap ((↑i : Int).tdiv 64) ∧ IntKind.i64.wrap ((↑i : Int).tdiv 64) < (↑xs.length : Int)) ∧ 0 + xs.length * 1 ≤ (List.map EK.u64.cell xs).length ∧ 0 < 1)
        (.vc (0 + (IntKind.i64.wrap ((↑i : Int).tdiv 64)).toNat * 1 < xs.length)
          (.vc (0 ≤ (↑i : Int).tmod 64)
            (.leaf (some ((shrU (xs.getD (0 + (IntKind.i64.wrap ((↑i : Int).tdiv 64)).toNat * 1) 0) ((↑i : Int).tmod 64) &&& UInt64.ofNat 1, .t))))))))) := by kernel_rfl
theorem bitAt_shr (xs : List UInt64) (i : Nat) : shrU (xs.getD (i / 64) 0) ((i % 64 : Nat) : Int) &&& 1 = b2u (bitAt xs i) := by
  have h := shr_bit (xs.getD (i / 64) 0) (i % 64) (by omega)
  unfold bitAt
  rw [← h]
  have h2 : ∀ y : UInt64, y &&& 1 = b2u (y &&& 1 == 1) := fun y => by
    have : (y &&& 1).toNat = y.toNat % 2 := by rw [UInt64.toNat_and]; exact Nat.and_one_is_mod _
    have h3 : (y &&& 1) = 0 ∨ (y &&& 1) = 1 := by
      rcases Nat.mod_two_eq_zero_or_one y.toNat with h | h
      · exact .inl (UInt64.toNat.inj (by rw [this, h]; rfl))
      · exact .inr (UInt64.toNat.inj (by rw [this, h]; rfl))
    rcases h3 with h | h <;> rw [h] <;> rfl
  exact h2 _
theorem natdiv_Z (i : Nat) (h : i < 9223372036854775808) : IntKind.i64.wrap (((i : Nat) : Int).tdiv 64) = ((i / 64 : Nat) : Int) := by
  rw [show ((i : Int)).tdiv 64 = ((i / 64 : Nat) : Int) by rw [Int.tdiv_eq_ediv_of_nonneg (by omega)]; omega, IntWalk.i64_in _ (by omega)]
theorem natmod_Z (i : Nat) : ((i : Nat) : Int).tmod 64 = ((i % 64 : Nat) : Int) := by rw [Int.tmod_eq_emod_of_nonneg (by omega)]; omega
def argIdx : Arg Nat where
  rd := fun _ v => match v with
    | .one (.c (.lit .i64 n)) => match decide (0 ≤ n) && decide (n < 9223372036854775808) with
      | true => some (n.toNat, .t, [])
      | false => none
    | .one (.c (.int .i64 n)) => some (n.toNat, .p (0 ≤ n ∧ n < 9223372036854775808), [])
    | _ => none
  is := fun _ v x => v = .int .i64 (x : Int) ∧ x < 9223372036854775808
  ok := fun {w0 β h w v x p rs} e hp _ _ => by
    split at e
    · split at e
      · rename_i hd
        cases e
        simp only [Bool.and_eq_true, decide_eq_true_eq] at hd
        refine ⟨?_, by omega⟩
        simp only [gv, g1, gc]
        congr 1
        omega
      · cases e
    · cases e
      have hp : (0 : Int) ≤ _ ∧ _ < (9223372036854775808 : Int) := hp
      refine ⟨?_, by omega⟩
      simp only [gv, g1, gc]
      congr 1
      omega
    · cases e
  near := fun e _ => e
def inpIdx : Inp Nat where
  arg := argIdx
  av := fun _ x => .one (.c (.int .i64 (x : Int)))
  hes := fun _ => []
  fact := fun x => x < 9223372036854775808
  known := fun h => h.2
  intro := fun {w0 β heap w v x} hr _ hv => ⟨β, by rw [List.append_nil]; exact hr, hv.1.symm, okc_none rfl, fun _ _ => rfl⟩
def bitF (xs : List UInt64) (i : Nat) : UInt64 := b2u (bitAt xs i)
theorem bit_ok : CallOk Try.prog 142 (K2 aL argIdx kU64.rs.res bitF) :=
  G2 (E := En []) Try.func142 (c := codeOf Try.f142) (by kernel_rfl) (bodied Try.func142 (by kernel_rfl) (by kernel_rfl)) iL inpIdx oU bitF fun xs i _ hi => by
    have hi : i < 9223372036854775808 := hi
    refine DoesL.ends (En_ok .nil) 100 (bit_run xs i) ⟨⟨by rw [u64_len]; omega, by decide⟩, fun _ => ⟨fun h => ?_, fun h => ?_⟩⟩
    · simp only [decide_eq_true_eq] at h
      rw [natdiv_Z i hi] at h
      refine ⟨.t, ?_, trivial⟩
      have : xs.length ≤ i / 64 := by omega
      simp [bitF, bitAt, List.getD_eq_getElem?_getD, List.getElem?_eq_none this]
      rfl
    · simp only [decide_eq_false_iff_not] at h
      rw [natdiv_Z i hi] at h ⊢
      refine ⟨⟨⟨by omega, by omega⟩, by rw [u64_len]; omega, by decide⟩, fun _ => ⟨by omega, fun _ => ⟨by rw [natmod_Z]; omega, fun _ => ⟨.t, ?_, trivial⟩⟩⟩⟩
      rw [natmod_Z]
      have := bitAt_shr xs i
      simp only [Nat.zero_add, Nat.mul_one, Int.toNat_natCast]
      exact congrArg (fun z => some (z, Pr.t)) this.symm ▸ rfl
end Go.Proofs.Ytchlamfdofpolaa
set_option linter.unusedSimpArgs false
set_option linter.unusedVariables false
namespace Go.Proofs.Ytchlamfdofpolaa
open Go.RowKit
noncomputable abbrev cutC : List Code := flat (codeOf Try.f144)
def cutSt (xs : List UInt64) (z : Int) : St := mkSt 23 [(0, inV 0 xs), (3, vI z)] [inHE eU64 xs]
theorem cut_start (xs : List UInt64) : stageG (En []) 100 (cutC.take 2) (startSt Try.f144 [iL.av 0 xs] [inHE eU64 xs]) [0, 3] [0] [(0, .as), (3, .int)] [] [] =
  (.vc (0 + xs.length * 1 ≤ (List.map EK.u64.cell xs).length ∧ 0 < 1)
    (.leaf (mkSt 23 [(0, .one (.c (.slc 0 0 (xs.length) 1 (.of 0) false))), (3, .one (.c (.int .i64 ((↑xs.length : Int)))))] [.live ⟨false, 0, 1, (.elts .u64 (xs : List UInt64)), false⟩]))) := by kernel_rfl
theorem cut_round (xs : List UInt64) (z : Int) : roundT (En []) 100 (loopAt Try.f144 0) (cutSt xs z) (same [0, 3] [0]) =
  (.br (decide (z > 0))
    (.vc ((0 ≤ IntKind.i64.wrap (z - 1) ∧ IntKind.i64.wrap (z - 1) < (↑xs.length : Int)) ∧ 0 + xs.length * 1 ≤ (List.map EK.u64.cell xs).length ∧ 0 < 1)
      (.vc (0 + (IntKind.i64.wrap (z - 1)).toNat * 1 < xs.length)
        (.br (xs.getD (0 + (IntKind.i64.wrap (z - 1)).toNat * 1) 0 == UInt64.ofNat 0)
          (.leaf ((.normal, mkSt 23 [(0, .one (.c (.slc 0 0 (xs.length) 1 (.of 0) false))), (3, .one (.c (.int .i64 (IntKind.i64.wrap (z - 1)))))] [.live ⟨false, 0, 1, (.elts .u64 (xs : List UInt64)), false⟩])))
          (.leaf ((.exit 0, mkSt 23 [(0, .one (.c (.slc 0 0 (xs.length) 1 (.of 0) false))), (3, .one (.c (.int .i64 (z))))] [.live ⟨false, 0, 1, (.elts .u64 (xs : List UInt64)), false⟩]))))))
    (.leaf ((.exit 0, mkSt 23 [(0, .one (.c (.slc 0 0 (xs.length) 1 (.of 0) false))), (3, .one (.c (.int .i64 (z))))] [.live ⟨false, 0, 1, (.elts .u64 (xs : List UInt64)), false⟩])))) := by kernel_rfl
theorem cut_end (xs : List UInt64) (z : Int) : endT (En []) oL 100 Try.f144 (cutC.drop 3) (cutSt xs z) =
  (.vc (0 ≤ z ∧ 0 ≤ z.toNat ∧ z.toNat ≤ xs.length ∧ 0 + xs.length * 1 ≤ (List.map EK.u64.cell xs).length ∧ 0 < 1 ∧ (0 = 0 ∨ 0 < z.toNat) ∧ 0 = 0 ∧ 1 = 1)
    (.vc (0 + (z.toNat - 0) ≤ xs.length ∧ 0 + (z.toNat - 0) ≤ 9223372036854775807 ∧ (0 + (z.toNat - 0)) * 8 ≤ 140737488355328)
      (.leaf (some ((List.take (0 + (z.toNat - 0)) ([] ++ List.take (z.toNat - 0) (List.drop 0 xs)), (.p (0 + (z.toNat - 0) ≤ ([] ++ List.take (z.toNat - 0) (List.drop 0 xs)).length)))))))) := by kernel_rfl
theorem cut_split : cutC.drop 2 = .block 0 (.loop (loopAt Try.f144 0)) :: cutC.drop 3 := by kernel_rfl
def cutN (xs : List UInt64) : Nat → Nat
  | 0 => 0
  | n + 1 => if atF xs n = 0 then cutN xs n else n + 1
def cutF (xs : List UInt64) : List UInt64 := xs.take (cutN xs xs.length)
abbrev CutOk (xs : List UInt64) : Type := { n : Nat // n ≤ xs.length ∧ cutN xs n = cutN xs xs.length }
theorem cut_ok : CallOk Try.prog 144 (K1 aLc rL cutF) :=
  G1 (E := En []) Try.func144 (c := codeOf Try.f144) (by kernel_rfl) (bodied Try.func144 (by kernel_rfl) (by kernel_rfl)) iLc oL cutF fun xs hx => by
    have hx : xs.length < 1099511627776 := hx.2
    refine DoesL.stageG (En_ok .nil) 100 2 [0, 3] [0] [(0, .as), (3, .int)] [] [] (cut_start xs) ⟨⟨by rw [u64_len]; omega, by decide⟩, fun _ => ?_⟩
    refine DoesL.blockLoop cut_split (fun n : CutOk xs => cutSt xs (n.1 : Int)) (fun n => n.1) ⟨xs.length, Nat.le_refl _, rfl⟩ fun n => ?_
    obtain ⟨n, h1, h2⟩ := n
    refine Does.round (En_ok .nil) 100 _ (cut_round xs n) ⟨fun h => ?_, fun h => ?_⟩
    · simp only [decide_eq_true_eq] at h
      obtain ⟨m, rfl⟩ : ∃ m, n = m + 1 := ⟨n - 1, by omega⟩
      have hw : IntKind.i64.wrap (((m + 1 : Nat) : Int) - 1) = (m : Int) := by rw [IntWalk.i64_in _ (by omega)]; omega
      rw [hw]
      refine ⟨⟨⟨by omega, by omega⟩, by rw [u64_len]; omega, by decide⟩, fun _ => ⟨by omega, fun _ => ⟨fun h3 => ?_, fun h3 => ?_⟩⟩⟩
      · refine ⟨⟨m, by omega, ?_⟩, by show m < m + 1; omega, rfl⟩
        rw [← h2]
        have : atF xs m = 0 := by
          simp only [beq_iff_eq, Nat.zero_add, Nat.mul_one, Int.toNat_natCast] at h3
          exact h3
        simp only [cutN, if_pos this]
      · refine ⟨rfl, DoesL.ends (En_ok .nil) 100 (cut_end xs ((m + 1 : Nat) : Int)) ⟨?_, fun _ => ⟨?_, fun _ => reads_p ?_ ?_⟩⟩⟩
        · rw [u64_len, Int.toNat_natCast]; exact ⟨by omega, by omega, by omega, by omega, by decide, .inl rfl, rfl, rfl⟩
        · rw [Int.toNat_natCast]; omega
        · simp only [Int.toNat_natCast, Nat.zero_add, Nat.sub_zero, List.drop_zero, List.nil_append, List.take_take, Nat.min_self]
          unfold cutF
          rw [← h2]
          have : atF xs m ≠ 0 := by
            simp only [beq_eq_false_iff_ne, Nat.zero_add, Nat.mul_one, Int.toNat_natCast] at h3
            exact h3
          simp only [cutN, if_neg this]
        · simp only [Int.toNat_natCast, Nat.zero_add, Nat.sub_zero, List.drop_zero, List.nil_append, List.length_take]
          omega
    · simp only [decide_eq_false_iff_not] at h
      obtain rfl : n = 0 := by omega
      refine ⟨rfl, DoesL.ends (En_ok .nil) 100 (cut_end xs 0) ⟨?_, fun _ => ⟨?_, fun _ => reads_p ?_ ?_⟩⟩⟩
      · rw [u64_len]; exact ⟨by omega, by omega, by simp, by omega, by decide, .inl rfl, rfl, rfl⟩
      · simp
      · unfold cutF
        rw [← h2]
        simp [cutN]
      · simp
end Go.Proofs.Ytchlamfdofpolaa
set_option linter.unusedSimpArgs false
set_option linter.unusedVariables false
namespace Go.Proofs.Ytchlamfdofpolaa
open Go.RowKit
noncomputable abbrev rcmpC : List Code := flat (codeOf Try.f145)
noncomputable abbrev rcmpB : Code := loopAt Try.f145 0
def ownL (xs : List UInt64) : HE := .live ⟨true, 22, 1, .elts .u64 xs, false⟩
def slV (i : Nat) (xs : List UInt64) : AV := .one (.c (.slc i 0 xs.length 1 (.of 0) false))
def rcmpS0 (a b : List UInt64) : St := mkSt 45 [(0, slV 0 a), (1, slV 1 b)] [ownL a, ownL b]
def rcmpSt (a b : List UInt64) (z : Int) : St := mkSt 45 [(0, slV 0 a), (1, slV 1 b), (5, vI z)] [ownL a, ownL b]
noncomputable abbrev rcmpE (cF : List UInt64 → List UInt64) : Env := Ens [(144, K1 aLc rL cF)] [144]
theorem rcmpE_ok : EnvOk (rcmpE cutF) := Ens_ok (.cons cut_ok .nil)
theorem rcmp_start (cF : List UInt64 → List UInt64) (xs ys : List UInt64) : stageT (rcmpE cF) 100 (rcmpC.take 2) (startSt Try.f145 [iL.av 0 xs, iL.av 1 ys] [inHE eU64 xs, inHE eU64 ys]) [0, 1] [2, 3] =
  (.vc ((0 + xs.length ≤ xs.length ∧ xs.length < 1125899906842624 ∧ 0 = 0 ∧ 1 = 1) ∧ short (List.take xs.length (List.drop 0 xs)))
    (.vc ((0 + ys.length ≤ ys.length ∧ ys.length < 1125899906842624 ∧ 0 = 0 ∧ 1 = 1) ∧ short (List.take ys.length (List.drop 0 ys)))
      (.leaf (mkSt 45 [(0, .one (.c (.slc 0 0 ((cF (List.take xs.length (List.drop 0 xs))).length) 1 (.of 0) false))), (1, .one (.c (.slc 1 0 ((cF (List.take ys.length (List.drop 0 ys))).length) 1 (.of 0) false)))] [.live ⟨true, 22, 1, (.elts .u64 (cF (List.take xs.length (List.drop 0 xs)) : List UInt64)), false⟩, .live ⟨true, 22, 1, (.elts .u64 (cF (List.take ys.length (List.drop 0 ys)) : List UInt64)), false⟩])))) := by kernel_rfl
theorem rcmp_len (cF : List UInt64 → List UInt64) (a b : List UInt64) : segT (rcmpE cF) oI 100 Try.f145 ((rcmpC.drop 2).take 3) (rcmpS0 a b) [0, 1, 5] [0, 1] [(0, .as), (1, .as), (5, .int)] [] [] =
  (.vc (0 + a.length * 1 ≤ (List.map EK.u64.cell a).length ∧ 0 < 1)
    (.vc (0 + b.length * 1 ≤ (List.map EK.u64.cell b).length ∧ 0 < 1)
      (.br ((↑a.length : Int) != (↑b.length : Int))
        (.vc (0 + a.length * 1 ≤ (List.map EK.u64.cell a).length ∧ 0 < 1)
          (.vc (0 + b.length * 1 ≤ (List.map EK.u64.cell b).length ∧ 0 < 1)
            (.br (decide ((↑a.length : Int) < (↑b.length : Int)))
              (.leaf (.inr (some ((-1, .t)))))
              (.leaf (.inr (some ((1, .t))))))))
        (.vc (0 + a.length * 1 ≤ (List.map EK.u64.cell a).length ∧ 0 < 1)
          (.leaf (.inl (mkSt 45 [(0, .one (.c (.slc 0 0 (a.length) 1 (.of 0) false))), (1, .one (.c (.slc 1 0 (b.length) 1 (.of 0) false))), (5, .one (.c (.int .i64 (IntKind.i64.wrap ((↑a.length : Int) - 1)))))] [.live ⟨true, 22, 1, (.elts .u64 (a : List UInt64)), false⟩, .live ⟨true, 22, 1, (.elts .u64 (b : List UInt64)), false⟩]))))))) := by kernel_rfl
theorem rcmp_round (cF : List UInt64 → List UInt64) (a b : List UInt64) (z : Int) : iterT (rcmpE cF) oI 100 Try.f145 [rcmpB] (rcmpSt a b z) [0, 1, 5] [0, 1] =
  (.br (decide (z ≥ 0))
    (.vc ((0 ≤ z ∧ z < (↑a.length : Int)) ∧ 0 + a.length * 1 ≤ (List.map EK.u64.cell a).length ∧ 0 < 1)
      (.vc (0 + z.toNat * 1 < a.length)
        (.vc ((0 ≤ z ∧ z < (↑b.length : Int)) ∧ 0 + b.length * 1 ≤ (List.map EK.u64.cell b).length ∧ 0 < 1)
          (.vc (0 + z.toNat * 1 < b.length)
            (.br (decide (a.getD (0 + z.toNat * 1) 0 < b.getD (0 + z.toNat * 1) 0))
              (.leaf (.inr (some ((-1, .t)))))
              (.vc ((0 ≤ z ∧ z < (↑a.length : Int)) ∧ 0 + a.length * 1 ≤ (List.map EK.u64.cell a).length ∧ 0 < 1)
                (.vc (0 + z.toNat * 1 < a.length)
                  (.vc ((0 ≤ z ∧ z < (↑b.length : Int)) ∧ 0 + b.length * 1 ≤ (List.map EK.u64.cell b).length ∧ 0 < 1)
                    (.vc (0 + z.toNat * 1 < b.length)
                      (.br (decide (b.getD (0 + z.toNat * 1) 0 < a.getD (0 + z.toNat * 1) 0))
                        (.leaf (.inr (some ((1, .t)))))
                        (.leaf (.inl ((.normal, mkSt 45 [(0, .one (.c (.slc 0 0 (a.length) 1 (.of 0) false))), (1, .one (.c (.slc 1 0 (b.length) 1 (.of 0) false))), (5, .one (.c (.int .i64 (IntKind.i64.wrap (z - 1)))))] [.live ⟨true, 22, 1, (.elts .u64 (a : List UInt64)), false⟩, .live ⟨true, 22, 1, (.elts .u64 (b : List UInt64)), false⟩]))))))))))))))
    (.leaf (.inl ((.exit 0, mkSt 45 [(0, .one (.c (.slc 0 0 (a.length) 1 (.of 0) false))), (1, .one (.c (.slc 1 0 (b.length) 1 (.of 0) false))), (5, .one (.c (.int .i64 (z))))] [.live ⟨true, 22, 1, (.elts .u64 (a : List UInt64)), false⟩, .live ⟨true, 22, 1, (.elts .u64 (b : List UInt64)), false⟩]))))) := by kernel_rfl
theorem rcmp_end (cF : List UInt64 → List UInt64) (a b : List UInt64) (z : Int) : endT (rcmpE cF) oI 100 Try.f145 (rcmpC.drop 6) (rcmpSt a b z) =
  (.leaf (some ((0, .t)))) := by kernel_rfl
theorem vcLen (xs : List UInt64) : 0 + xs.length * 1 ≤ (List.map EK.u64.cell xs).length ∧ 0 < 1 := ⟨by rw [u64_len]; omega, by decide⟩
theorem vcIdx {xs : List UInt64} {n : Nat} (h : n < xs.length) : ((0 : Int) ≤ (n : Int) ∧ (n : Int) < (xs.length : Int)) ∧ 0 + xs.length * 1 ≤ (List.map EK.u64.cell xs).length ∧ 0 < 1 := ⟨⟨by omega, by omega⟩, vcLen xs⟩
theorem vcGet {xs : List UInt64} {n : Nat} (h : n < xs.length) : 0 + ((n : Int)).toNat * 1 < xs.length := by rw [Int.toNat_natCast]; omega
theorem getZ (xs : List UInt64) (n : Nat) : xs.getD (0 + ((n : Int)).toNat * 1) 0 = atF xs n := by rw [Int.toNat_natCast, Nat.zero_add, Nat.mul_one]; rfl
theorem wrap_pred (n : Nat) (h : n < 9223372036854775807) : IntKind.i64.wrap ((n : Int) - 1) = (n : Int) - 1 := IntWalk.i64_in _ (by omega)
theorem wrap_succ (n : Nat) (h : n < 9223372036854775807) : IntKind.i64.wrap ((n : Int) + 1) = ((n + 1 : Nat) : Int) := by rw [IntWalk.i64_in _ (by omega)]; omega
theorem whole (xs : List UInt64) : List.take xs.length (List.drop 0 xs) = xs := by rw [List.drop_zero, List.take_length]
theorem okL' {xs : List UInt64} (h : xs.length < 1125899906842624) : 0 + xs.length ≤ xs.length ∧ xs.length < 1125899906842624 ∧ 0 = 0 ∧ 1 = 1 := ⟨by omega, h, rfl, rfl⟩
theorem okC {xs : List UInt64} (h : xs.length < 1099511627776) : (0 + xs.length ≤ xs.length ∧ xs.length < 1125899906842624 ∧ 0 = 0 ∧ 1 = 1) ∧ short (List.take xs.length (List.drop 0 xs)) := ⟨okL' (by omega), by rw [whole]; exact h⟩
def cmpR (xs ys : List UInt64) : Int :=
  if (cutF xs).length ≠ (cutF ys).length then (if (cutF xs).length < (cutF ys).length then -1 else 1) else cmpAt (cutF xs) (cutF ys) (cutF xs).length
abbrev RcOk (a b : List UInt64) : Type := { z : Int // -1 ≤ z ∧ z < a.length ∧ cmpAt a b (z + 1).toNat = cmpAt a b a.length }
theorem rcmp_ok : CallOk Try.prog 145 (K2 aLc aLc kInt.rs.res cmpR) :=
  G2 (E := rcmpE cutF) Try.func145 (c := codeOf Try.f145) (by kernel_rfl) (bodied Try.func145 (by kernel_rfl) (by kernel_rfl)) iLc iLc oI cmpR fun xs ys hx hy => by
    have hx : xs.length < 1099511627776 := hx.2
    have hy : ys.length < 1099511627776 := hy.2
    have hE := rcmpE_ok
    have hcl : ∀ zs : List UInt64, (cutF zs).length ≤ zs.length := fun zs => by unfold cutF; rw [List.length_take]; omega
    have cx := hcl xs
    have cy := hcl ys
    refine DoesL.stageE hE 100 2 [0, 1] [2, 3] (rcmp_start cutF xs ys) ?_
    simp only [List.drop_zero, List.take_length]
    refine ⟨⟨⟨by omega, by omega, trivial, trivial⟩, hx⟩, fun _ => ⟨⟨⟨by omega, by omega, trivial, trivial⟩, hy⟩, fun _ => ?_⟩⟩
    have ex : cmpR xs ys = if (cutF xs).length ≠ (cutF ys).length then (if (cutF xs).length < (cutF ys).length then -1 else 1) else cmpAt (cutF xs) (cutF ys) (cutF xs).length := rfl
    generalize cutF xs = a at *
    generalize cutF ys = b at *
    refine DoesL.seg hE 100 3 [0, 1, 5] [0, 1] [(0, .as), (1, .as), (5, .int)] [] [] (rcmp_len cutF a b) ⟨vcLen a, fun _ => ⟨vcLen b, fun _ => ⟨fun h => ⟨vcLen a, fun _ => ⟨vcLen b, fun _ => ⟨fun h2 => ?_, fun h2 => ?_⟩⟩⟩, fun h => ⟨vcLen a, fun _ => ?_⟩⟩⟩⟩
    · simp only [bne_iff_ne, ne_eq, decide_eq_true_eq] at h h2
      exact reads_t (by rw [ex, if_pos (by omega), if_pos (by omega)])
    · simp only [bne_iff_ne, ne_eq, decide_eq_false_iff_not] at h h2
      exact reads_t (by rw [ex, if_pos (by omega), if_neg (by omega)])
    · simp only [bne_eq_false_iff_eq] at h
      have hl : a.length = b.length := by omega
      rw [if_neg (by omega)] at ex
      have hw : IntKind.i64.wrap ((a.length : Int) - 1) = (a.length : Int) - 1 := wrap_pred _ (by omega)
      rw [hw]
      refine DoesL.blockLoopR (B := rcmpB) (rest := rcmpC.drop 6) (id := 0) (by kernel_rfl) (fun z : RcOk a b => rcmpSt a b z.1) (fun z => (z.1 + 1).toNat) ⟨(a.length : Int) - 1, by omega, by omega, by rw [show ((a.length : Int) - 1 + 1).toNat = a.length by omega]⟩ fun z => ?_
      obtain ⟨z, z1, z2, z3⟩ := z
      refine DoesL.iter hE 100 [0, 1, 5] [0, 1] (rcmp_round cutF a b z) ⟨fun h0 => ?_, fun h0 => ?_⟩
      · simp only [ge_iff_le, decide_eq_true_eq] at h0
        obtain ⟨n, rfl⟩ : ∃ n : Nat, z = (n : Int) := ⟨z.toNat, by omega⟩
        have na : n < a.length := by omega
        have nb : n < b.length := by omega
        rw [getZ, getZ, wrap_pred _ (by omega)]
        rw [show ((n : Int) + 1).toNat = n + 1 by omega] at z3
        have st : cmpAt a b (n + 1) = if atF a n < atF b n then -1 else if atF a n > atF b n then 1 else cmpAt a b n := rfl
        refine ⟨vcIdx na, fun _ => ⟨vcGet na, fun _ => ⟨by exact vcIdx nb, fun _ => ⟨vcGet nb, fun _ => ⟨fun h1 => ?_, fun h1 => ⟨vcIdx na, fun _ => ⟨vcGet na, fun _ => ⟨vcIdx nb, fun _ => ⟨vcGet nb, fun _ => ⟨fun h2 => ?_, fun h2 => ?_⟩⟩⟩⟩⟩⟩⟩⟩⟩⟩
        · simp only [decide_eq_true_eq] at h1
          exact reads_t (by rw [ex, ← z3, st, if_pos h1])
        · simp only [decide_eq_true_eq, decide_eq_false_iff_not] at h1 h2
          exact reads_t (by rw [ex, ← z3, st, if_neg h1, if_pos h2])
        · simp only [decide_eq_false_iff_not] at h1 h2
          refine ⟨⟨(n : Int) - 1, by omega, by omega, ?_⟩, ?_, rfl⟩
          · rw [show ((n : Int) - 1 + 1).toNat = n by omega, ← z3, st, if_neg h1, if_neg h2]
          · simp only []; omega
      · simp only [ge_iff_le, decide_eq_false_iff_not] at h0
        obtain rfl : z = -1 := by omega
        refine ⟨rfl, DoesL.ends hE 100 (rcmp_end cutF a b (-1)) (reads_t ?_)⟩
        rw [ex, ← z3]
        rfl
end Go.Proofs.Ytchlamfdofpolaa
set_option linter.unusedSimpArgs false
set_option linter.unusedVariables false
namespace Go.Proofs.Ytchlamfdofpolaa
open Go.RowKit
abbrev bitV (b : Bool) : AV := .one (.c (.bit b))
theorem max_if (a b : Nat) : (if (b : Int) > (a : Int) then (b : Int) else (a : Int)) = ((max a b : Nat) : Int) := by split <;> omega
theorem own_eq (xs : List UInt64) (x : UInt64) : List.take xs.length (List.drop 0 xs) ++ [x] = xs ++ [x] := by rw [List.drop_zero, List.take_length]
theorem len_snoc (xs : List UInt64) (x : UInt64) : xs.length + 1 = (xs ++ [x]).length := by simp
noncomputable abbrev rlessC : List Code := flat (codeOf Try.f139)
noncomputable abbrev rlessB : Code := loopAt Try.f139 0
abbrev rLI : Res (List UInt64 × Int) := resSl2 eU64 22
abbrev oLI : Out (List UInt64 × Int) := outSl2 eU64 22
def rlessSt (xs ys out : List UInt64) (c : Bool) (z : Int) : St := mkSt 42 [(0, inV 0 xs), (1, inV 1 ys), (6, slV 2 out), (7, bitV c), (8, vI z)] [inHE eU64 xs, inHE eU64 ys, ownL out]
noncomputable abbrev rlessE (pF : List UInt64 → List UInt64 → Int) (lF : List UInt64 → Nat → UInt64) (S : UInt64 → UInt64 → Bool → UInt64) (C : UInt64 → UInt64 → Bool → Bool) (cF : List UInt64 → List UInt64) : Env :=
  Ens [(145, K2 aLc aLc kInt.rs.res pF), (143, K2 aL argNat kU64.rs.res lF), (137, K3x S C), (144, K1 aLc rL cF)] [144]
theorem rlessE_ok : EnvOk (rlessE cmpR atF subS subB cutF) := Ens_ok (.cons rcmp_ok (.cons limb_ok (.cons sub64_ok (.cons cut_ok .nil))))
theorem rless_start (pF : List UInt64 → List UInt64 → Int) (lF : List UInt64 → Nat → UInt64) (S : UInt64 → UInt64 → Bool → UInt64) (C : UInt64 → UInt64 → Bool → Bool) (cF : List UInt64 → List UInt64) (xs ys : List UInt64) : segT (rlessE pF lF S C cF) oLI 100 Try.f139 (rlessC.take 6) (startSt Try.f139 [iL.av 0 xs, iL.av 1 ys] [inHE eU64 xs, inHE eU64 ys]) [0, 1, 6, 7, 8] [0, 1] [(0, .as), (1, .as), (6, .nil 2), (7, .bit), (8, .int)] [] [(22, .u64)] =
  (.vc (((0 + xs.length ≤ xs.length ∧ xs.length < 1125899906842624 ∧ 0 = 0 ∧ 1 = 1) ∧ short (List.take xs.length (List.drop 0 xs))) ∧ (0 + ys.length ≤ ys.length ∧ ys.length < 1125899906842624 ∧ 0 = 0 ∧ 1 = 1) ∧ short (List.take ys.length (List.drop 0 ys)))
    (.br (decide (pF (List.take xs.length (List.drop 0 xs)) (List.take ys.length (List.drop 0 ys)) < 0))
      (.leaf (.inr (some ((([], 1), .t)))))
      (.leaf (.inl (mkSt 42 [(0, .one (.c (.slc 0 0 (xs.length) 1 (.of 0) false))), (1, .one (.c (.slc 1 0 (ys.length) 1 (.of 0) false))), (6, .one (.c (.slc 2 0 0 1 (.of 0) false))), (7, .one (.c (.bit (false)))), (8, .one (.c (.int .i64 0)))] [.live ⟨false, 0, 1, (.elts .u64 (xs : List UInt64)), false⟩, .live ⟨false, 0, 1, (.elts .u64 (ys : List UInt64)), false⟩, .live ⟨true, 22, 1, (.elts .u64 ([] : List UInt64)), false⟩]))))) := by kernel_rfl
theorem rless_round (pF : List UInt64 → List UInt64 → Int) (lF : List UInt64 → Nat → UInt64) (S : UInt64 → UInt64 → Bool → UInt64) (C : UInt64 → UInt64 → Bool → Bool) (cF : List UInt64 → List UInt64) (xs ys out : List UInt64) (c : Bool) (z : Int) : roundT (rlessE pF lF S C cF) 100 rlessB (rlessSt xs ys out c z) (fun x => match x with | .normal => some ([0, 1, 6, 7, 8], [0, 1, 4]) | _ => some ([0, 1, 6, 7, 8], [0, 1, 2])) =
  (.vc (0 + xs.length * 1 ≤ (List.map EK.u64.cell xs).length ∧ 0 < 1)
    (.vc (0 + ys.length * 1 ≤ (List.map EK.u64.cell ys).length ∧ 0 < 1)
      (.br (decide (z < if (↑ys.length : Int) > (↑xs.length : Int) then (↑ys.length : Int) else (↑xs.length : Int)))
        (.vc ((0 + xs.length ≤ xs.length ∧ xs.length < 1125899906842624 ∧ 0 = 0 ∧ 1 = 1) ∧ 0 ≤ z)
          (.vc ((0 + ys.length ≤ ys.length ∧ ys.length < 1125899906842624 ∧ 0 = 0 ∧ 1 = 1) ∧ 0 ≤ z)
            (.vc (0 + out.length ≤ out.length ∧ out.length + 1 ≤ 9223372036854775807 ∧ (out.length + 1) * 8 ≤ 140737488355328)
              (.leaf ((.normal, mkSt 42 [(0, .one (.c (.slc 0 0 (xs.length) 1 (.of 0) false))), (1, .one (.c (.slc 1 0 (ys.length) 1 (.of 0) false))), (6, .one (.c (.slc 2 0 (out.length + 1) 1 (.of 0) false))), (7, .one (.c (.bit (C (lF (List.take xs.length (List.drop 0 xs)) z.toNat) (lF (List.take ys.length (List.drop 0 ys)) z.toNat) c)))), (8, .one (.c (.int .i64 (IntKind.i64.wrap (z + 1)))))] [.live ⟨false, 0, 1, (.elts .u64 (xs : List UInt64)), false⟩, .live ⟨false, 0, 1, (.elts .u64 (ys : List UInt64)), false⟩, .live ⟨true, 22, 1, (.elts .u64 (List.take out.length (List.drop 0 out) ++ [S (lF (List.take xs.length (List.drop 0 xs)) z.toNat) (lF (List.take ys.length (List.drop 0 ys)) z.toNat) c] : List UInt64)), false⟩]))))))
        (.leaf ((.exit 0, mkSt 42 [(0, .one (.c (.slc 0 0 (xs.length) 1 (.of 0) false))), (1, .one (.c (.slc 1 0 (ys.length) 1 (.of 0) false))), (6, .one (.c (.slc 2 0 (out.length) 1 (.of 0) false))), (7, .one (.c (.bit (c)))), (8, .one (.c (.int .i64 (z))))] [.live ⟨false, 0, 1, (.elts .u64 (xs : List UInt64)), false⟩, .live ⟨false, 0, 1, (.elts .u64 (ys : List UInt64)), false⟩, .live ⟨true, 22, 1, (.elts .u64 (out : List UInt64)), false⟩])))))) := by kernel_rfl
theorem rless_end (pF : List UInt64 → List UInt64 → Int) (lF : List UInt64 → Nat → UInt64) (S : UInt64 → UInt64 → Bool → UInt64) (C : UInt64 → UInt64 → Bool → Bool) (cF : List UInt64 → List UInt64) (xs ys out : List UInt64) (c : Bool) (z : Int) : endT (rlessE pF lF S C cF) oLI 100 Try.f139 (rlessC.drop 7) (rlessSt xs ys out c z) =
  (.vc ((0 + out.length ≤ out.length ∧ out.length < 1125899906842624 ∧ 0 = 0 ∧ 1 = 1) ∧ short (List.take out.length (List.drop 0 out)))
    (.leaf (some (((List.take (cF (List.take out.length (List.drop 0 out))).length (cF (List.take out.length (List.drop 0 out))), 0), (.p ((cF (List.take out.length (List.drop 0 out))).length ≤ (cF (List.take out.length (List.drop 0 out))).length))))))) := by kernel_rfl
def subAt (xs ys : List UInt64) : Nat → List UInt64 × Bool
  | 0 => ([], false)
  | k + 1 => ((subAt xs ys k).1 ++ [subS (atF xs k) (atF ys k) (subAt xs ys k).2], subB (atF xs k) (atF ys k) (subAt xs ys k).2)
theorem subAt_len (xs ys : List UInt64) : ∀ k, (subAt xs ys k).1.length = k
  | 0 => rfl
  | k + 1 => by simp only [subAt, List.length_append, subAt_len xs ys k, List.length_singleton]
def rlessF (xs ys : List UInt64) : List UInt64 × Int := if cmpR xs ys < 0 then ([], 1) else (cutF (subAt xs ys (max xs.length ys.length)).1, 0)
theorem rless_ok : CallOk Try.prog 139 (K2 aLt aLt rLI rlessF) :=
  G2 (E := rlessE cmpR atF subS subB cutF) Try.func139 (c := codeOf Try.f139) (by kernel_rfl) (bodied Try.func139 (by kernel_rfl) (by kernel_rfl)) iLt iLt oLI rlessF fun xs ys hx hy => by
    have hx : xs.length < 4294967296 := hx.2
    have hy : ys.length < 4294967296 := hy.2
    have hE := rlessE_ok
    refine DoesL.seg hE 100 6 _ _ _ _ _ (rless_start cmpR atF subS subB cutF xs ys) ?_
    refine ⟨⟨okC (by omega), okC (by omega)⟩, fun _ => ⟨fun h => ?_, fun h => ?_⟩⟩
    · rw [whole, whole] at h
      simp only [decide_eq_true_eq] at h
      exact reads_t (by rw [rlessF, if_pos h])
    rw [whole, whole] at h
    simp only [decide_eq_false_iff_not] at h
    have ex : rlessF xs ys = (cutF (subAt xs ys (max xs.length ys.length)).1, 0) := by rw [rlessF, if_neg h]
    refine DoesL.blockLoop (B := rlessB) (rest := rlessC.drop 7) (id := 0) (by kernel_rfl) (fun k : { k : Nat // k ≤ max xs.length ys.length } => rlessSt xs ys (subAt xs ys k.1).1 (subAt xs ys k.1).2 (k.1 : Int)) (fun k => max xs.length ys.length - k.1) ⟨0, by omega⟩ fun k => ?_
    obtain ⟨k, hk⟩ := k
    have hl := subAt_len xs ys k
    show Does _ _ (rlessSt xs ys (subAt xs ys k).1 (subAt xs ys k).2 (k : Int)) _
    refine Does.round hE 100 _ (rless_round cmpR atF subS subB cutF xs ys _ _ (k : Int)) ⟨vcLen xs, fun _ => ⟨vcLen ys, fun _ => ⟨fun h => ?_, fun h => ?_⟩⟩⟩
    · rw [max_if] at h
      simp only [decide_eq_true_eq] at h
      refine ⟨⟨okL' (by omega), by omega⟩, fun _ => ⟨⟨okL' (by omega), by omega⟩, fun _ => ⟨⟨by omega, by omega, by omega⟩, fun _ => ?_⟩⟩⟩
      refine ⟨⟨k + 1, by omega⟩, by show max xs.length ys.length - (k + 1) < max xs.length ys.length - k; omega, ?_⟩
      rw [wrap_succ k (by omega), own_eq, len_snoc _ (subS (atF xs k) (atF ys k) (subAt xs ys k).2), whole, whole, Int.toNat_natCast]
      rfl
    · rw [max_if] at h
      simp only [decide_eq_false_iff_not] at h
      obtain rfl : k = max xs.length ys.length := by omega
      refine ⟨rfl, DoesL.ends hE 100 (rless_end cmpR atF subS subB cutF xs ys _ _ _) ⟨okC (by omega), fun _ => ?_⟩⟩
      rw [whole]
      refine reads_p ?_ (Nat.le_refl _)
      rw [List.take_length, ex]
end Go.Proofs.Ytchlamfdofpolaa
set_option linter.unusedSimpArgs false
set_option linter.unusedVariables false
namespace Go.Proofs.Ytchlamfdofpolaa
open Go.RowKit
end Go.Proofs.Ytchlamfdofpolaa

set_option linter.unusedSimpArgs false
set_option linter.unusedVariables false
namespace Go.Proofs.Ytchlamfdofpolaa
open Go.RowKit
noncomputable abbrev rsubC : List Code := flat (codeOf Try.f124)
noncomputable abbrev rsubB : Code := loopAt Try.f124 0
def rsubSt (ty ty' : TypeId) (xs ys : List UInt64) (c : Bool) (z : Int) : St := mkSt 28 [(0, slW 0 xs), (1, slW 1 ys), (4, bitV c), (5, vI z)] (wrHE ty ty' xs ys)
noncomputable abbrev rsubE (S : UInt64 → UInt64 → Bool → UInt64) (C : UInt64 → UInt64 → Bool → Bool) : Env := En [(137, K3x S C)]
theorem rsubE_ok : EnvOk (rsubE subS subB) := En_ok (.cons sub64_ok .nil)
theorem rsub_start (S : UInt64 → UInt64 → Bool → UInt64) (C : UInt64 → UInt64 → Bool → Bool) (ty ty' : TypeId) (xs ys : List UInt64) : stageG (rsubE S C) 100 (rsubC.take 2) (startSt Try.f124 [slW 0 xs, slW 1 ys] (wrHE ty ty' xs ys)) [0, 1, 4, 5] [0, 1] [(0, .as), (1, .as), (4, .bit), (5, .int)] [] [] =
  (.leaf (mkSt 28 [(0, .one (.c (.slc 0 0 (xs.length) 1 (.of 0) false))), (1, .one (.c (.slc 1 0 (ys.length) 1 (.of 0) false))), (4, .one (.c (.bit (false)))), (5, .one (.c (.int .i64 0)))] [.live ⟨true, (ty), 1, (.elts .u64 (xs : List UInt64)), true⟩, .live ⟨false, (ty'), 1, (.elts .u64 (ys : List UInt64)), false⟩])) := by kernel_rfl
theorem rsub_round (S : UInt64 → UInt64 → Bool → UInt64) (C : UInt64 → UInt64 → Bool → Bool) (ty ty' : TypeId) (xs ys : List UInt64) (c : Bool) (z : Int) : roundT (rsubE S C) 100 rsubB (rsubSt ty ty' xs ys c z) (same [0, 1, 4, 5] [0, 1]) =
  (.vc (0 + ys.length * 1 ≤ (List.map EK.u64.cell ys).length ∧ 0 < 1)
    (.br (decide (z < (↑ys.length : Int)))
      (.vc ((0 ≤ z ∧ z < (↑xs.length : Int)) ∧ 0 + xs.length * 1 ≤ (List.map EK.u64.cell xs).length ∧ 0 < 1)
        (.vc (0 + z.toNat * 1 < xs.length)
          (.vc ((0 ≤ z ∧ z < (↑ys.length : Int)) ∧ 0 + ys.length * 1 ≤ (List.map EK.u64.cell ys).length ∧ 0 < 1)
            (.vc (0 + z.toNat * 1 < ys.length)
              (.vc ((0 ≤ z ∧ z < (↑xs.length : Int)) ∧ 0 + xs.length * 1 ≤ (List.map EK.u64.cell xs).length ∧ 0 < 1)
                (.vc (0 + z.toNat * 1 < xs.length)
                  (.leaf ((.normal, mkSt 28 [(0, .one (.c (.slc 0 0 (xs.length) 1 (.of 0) false))), (1, .one (.c (.slc 1 0 (ys.length) 1 (.of 0) false))), (4, .one (.c (.bit (C (xs.getD (0 + z.toNat * 1) 0) (ys.getD (0 + z.toNat * 1) 0) c)))), (5, .one (.c (.int .i64 (IntKind.i64.wrap (z + 1)))))] [.live ⟨true, (ty), 1, (.elts .u64 (xs.set (0 + z.toNat * 1) (S (xs.getD (0 + z.toNat * 1) 0) (ys.getD (0 + z.toNat * 1) 0) c) : List UInt64)), true⟩, .live ⟨false, (ty'), 1, (.elts .u64 (ys : List UInt64)), false⟩])))))))))
      (.leaf ((.exit 0, mkSt 28 [(0, .one (.c (.slc 0 0 (xs.length) 1 (.of 0) false))), (1, .one (.c (.slc 1 0 (ys.length) 1 (.of 0) false))), (4, .one (.c (.bit (c)))), (5, .one (.c (.int .i64 (z))))] [.live ⟨true, (ty), 1, (.elts .u64 (xs : List UInt64)), true⟩, .live ⟨false, (ty'), 1, (.elts .u64 (ys : List UInt64)), false⟩]))))) := by kernel_rfl
theorem rsub_end (S : UInt64 → UInt64 → Bool → UInt64) (C : UInt64 → UInt64 → Bool → Bool) (ty ty' : TypeId) (xs ys : List UInt64) (c : Bool) (z : Int) : wendT (rsubE S C) 100 Try.f124 (rsubC.drop 3) (rsubSt ty ty' xs ys c z) =
  (.leaf (some ((AV.tup [], hpS (wrHE ty ty' xs ys) 0)))) := by kernel_rfl
theorem rfp_run (xs : List UInt64) : endT (En []) oF 100 Try.f117 (flat (codeOf Try.f117)) (startSt Try.f117 [iL.av 0 xs] [inHE eU64 xs]) =
  (.vc (0 + xs.length ≤ xs.length)
    (.leaf (some (({ l0 := pickC (Nat.blt 0 xs.length) ((List.take xs.length (List.drop 0 xs)).getD 0 0) (UInt64.ofNat 0), l1 := pickC (Nat.blt 1 xs.length) ((List.take xs.length (List.drop 0 xs)).getD 1 0) (UInt64.ofNat 0), l2 := pickC (Nat.blt 2 xs.length) ((List.take xs.length (List.drop 0 xs)).getD 2 0) (UInt64.ofNat 0), l3 := pickC (Nat.blt 3 xs.length) ((List.take xs.length (List.drop 0 xs)).getD 3 0) (UInt64.ofNat 0), l4 := pickC (Nat.blt 4 xs.length) ((List.take xs.length (List.drop 0 xs)).getD 4 0) (UInt64.ofNat 0), l5 := pickC (Nat.blt 5 xs.length) ((List.take xs.length (List.drop 0 xs)).getD 5 0) (UInt64.ofNat 0) }, .t))))) := by kernel_rfl
theorem set_get (xs : List UInt64) (k : Nat) (v : UInt64) {j : Nat} (h : j ≠ k) : atF (xs.set k v) j = atF xs j := by
  unfold atF
  rw [List.getD_eq_getElem?_getD, List.getD_eq_getElem?_getD, List.getElem?_set_ne (Ne.symm h)]
def subW : Nat → List UInt64 → List UInt64 → Bool → List UInt64 × Bool
  | 0, xs, ys, c => (xs, c)
  | k + 1, xs, ys, c => ((subW k xs ys c).1.set k (subS (atF xs k) (atF ys k) (subW k xs ys c).2), subB (atF xs k) (atF ys k) (subW k xs ys c).2)
theorem subW_len (xs ys : List UInt64) (c : Bool) : ∀ k, (subW k xs ys c).1.length = xs.length
  | 0 => rfl
  | k + 1 => by simp only [subW, List.length_set, subW_len xs ys c k]
theorem subW_at (xs ys : List UInt64) (c : Bool) : ∀ k j, k ≤ j → atF (subW k xs ys c).1 j = atF xs j
  | 0, j, _ => rfl
  | k + 1, j, h => by
    simp only [subW]
    rw [set_get _ _ _ (by omega), subW_at xs ys c k j (by omega)]
theorem rsub_ok : CallOk Try.prog 124 (Kwl fun xs ys => (subW ys.length xs ys false).1) := by
  refine Kwl_ok (E := rsubE subS subB) Try.func124 (c := codeOf Try.f124) (by kernel_rfl) (bodied Try.func124 (by kernel_rfl) (by kernel_rfl)) (fun xs ys => subW_len _ _ _ _) fun ty ty' xs ys h0 hl hb => ?_
  have hE := rsubE_ok
  refine DoesL.stageG hE 100 2 _ _ _ _ _ (rsub_start subS subB ty ty' xs ys) ?_
  refine DoesL.blockLoop (B := rsubB) (rest := rsubC.drop 3) (id := 0) (by kernel_rfl) (fun k : { k : Nat // k ≤ ys.length } => rsubSt ty ty' (subW k.1 xs ys false).1 ys (subW k.1 xs ys false).2 (k.1 : Int)) (fun k => ys.length - k.1) ⟨0, by omega⟩ fun k => ?_
  obtain ⟨k, hk⟩ := k
  have hw := subW_len xs ys false k
  have ha := subW_at xs ys false k k (Nat.le_refl _)
  show Does _ _ (rsubSt ty ty' (subW k xs ys false).1 ys (subW k xs ys false).2 (k : Int)) _
  refine Does.round hE 100 _ (rsub_round subS subB ty ty' (subW k xs ys false).1 ys (subW k xs ys false).2 (k : Int)) ⟨vcLen ys, fun _ => ⟨fun h => ?_, fun h => ?_⟩⟩
  · simp only [decide_eq_true_eq] at h
    have k1 : k < ys.length := by omega
    have k2 : k < (subW k xs ys false).1.length := by omega
    refine ⟨vcIdx k2, fun _ => ⟨vcGet k2, fun _ => ⟨vcIdx k1, fun _ => ⟨vcGet k1, fun _ => ⟨vcIdx k2, fun _ => ⟨vcGet k2, fun _ => ?_⟩⟩⟩⟩⟩⟩
    refine ⟨⟨k + 1, by omega⟩, by show ys.length - (k + 1) < ys.length - k; omega, ?_⟩
    rw [wrap_succ k (by omega), getZ, getZ, Int.toNat_natCast, Nat.zero_add, Nat.mul_one, ha]
    have e : (subW (k + 1) xs ys false).1.length = (subW k xs ys false).1.length := by rw [subW_len, subW_len]
    show _ = rsubSt ty ty' (subW (k + 1) xs ys false).1 ys (subW (k + 1) xs ys false).2 ((k + 1 : Nat) : Int)
    unfold rsubSt slW
    rw [e]
    rfl
  · simp only [decide_eq_false_iff_not] at h
    obtain rfl : k = ys.length := by omega
    exact ⟨rfl, DoesL.wends hE 100 (rsub_end subS subB ty ty' _ ys _ _) (Tree.sat_leaf rfl)⟩
def ofL (xs : List UInt64) : Fp := ⟨atF xs 0, atF xs 1, atF xs 2, atF xs 3, atF xs 4, atF xs 5⟩
theorem pick_at (xs : List UInt64) (k : Nat) : pickC (Nat.blt k xs.length) ((List.take xs.length (List.drop 0 xs)).getD k 0) (UInt64.ofNat 0) = atF xs k := by
  rw [whole]
  cases h : Nat.blt k xs.length with
  | true => rfl
  | false =>
    have : ¬ k < xs.length := fun h2 => by rw [show Nat.blt k xs.length = true from Nat.ble_eq_true_of_le h2] at h; cases h
    simp only [pickC, atF, List.getD_eq_getElem?_getD]
    rw [List.getElem?_eq_none (by omega)]
    rfl
theorem rfp_ok : CallOk Try.prog 117 (K1 aL oF.res ofL) :=
  G1 (E := En []) Try.func117 (c := codeOf Try.f117) (by kernel_rfl) (bodied Try.func117 (by kernel_rfl) (by kernel_rfl)) iL oF ofL fun xs hx => by
    refine DoesL.ends (En_ok .nil) 100 (rfp_run xs) ⟨by omega, fun _ => reads_t ?_⟩
    rw [pick_at, pick_at, pick_at, pick_at, pick_at, pick_at]
    rfl
abbrev rSu : Res Fp := rS 22
abbrev oSu : Out Fp := oS 22
def six (a : Fp) : List UInt64 := [a.l0, a.l1, a.l2, a.l3, a.l4, a.l5]
def wrOk (a m : Fp) : Prop := 0 < (six a).length ∧ (six m).length ≤ (six a).length ∧ (six a).length < 4294967296
theorem wrOk_ok (a m : Fp) : wrOk a m := ⟨Nat.lt_of_lt_of_le (by decide : 0 < 6) (Nat.le_refl 6), Nat.le_refl 6, (by decide : 6 < 4294967296)⟩
abbrev Ksub : Contract := Kwl fun xs ys => (subW ys.length xs ys false).1
noncomputable abbrev plusE (bF : Fp → Fp → Bool) : Env := En [(123, K3x addS addC), (53, K2 aS aS oB.res bF), (124, Ksub)]
theorem plusE_ok : EnvOk (plusE belowF) := En_ok (.cons add64_ok (.cons below_ok (.cons rsub_ok .nil)))
def lfF (a : Fp) : Tree (Option (Fp × Pr)) := .leaf (some (a, .t))
def plusT (bF : Fp → Fp → Bool) (a b m : Fp) : Tree (Option (Fp × Pr)) :=
  .br (b2u (addT a b).2 == 1) (.vc (wrOk (addT a b).1 m) (lfF (subT (addT a b).1 m).1)) (.br (!(bF (addT a b).1 m)) (.vc (wrOk (addT a b).1 m) (lfF (subT (addT a b).1 m).1)) (lfF (addT a b).1))
theorem plus_run (bF : Fp → Fp → Bool) (a b m : Fp) : endT (plusE bF) oSu 300 Try.f76 (flat (codeOf Try.f76)) (startSt Try.f76 [iS.av 0 a, iS.av 1 b, iS.av 2 m] (iS.hes a ++ iS.hes b ++ iS.hes m)) = plusT bF a b m := by kernel_rfl
def plusF (a b m : Fp) : Fp := match b2u (addT a b).2 == 1 with
  | true => (subT (addT a b).1 m).1
  | false => match !(belowF (addT a b).1 m) with
    | true => (subT (addT a b).1 m).1
    | false => (addT a b).1
theorem plusT_sat (a b m : Fp) : (plusT belowF a b m).sat fun q => ∃ p, q = some (plusF a b m, p) ∧ p.holds := by
  refine ⟨fun h => ⟨wrOk_ok _ _, fun _ => ?_⟩, fun h => ⟨fun h2 => ⟨wrOk_ok _ _, fun _ => ?_⟩, fun h2 => ?_⟩⟩
  · exact reads_t (by unfold plusF; rw [h])
  · exact reads_t (by unfold plusF; rw [h, h2])
  · exact reads_t (by unfold plusF; rw [h, h2])
theorem plus_ok : CallOk Try.prog 76 (K3 aS aS aS rSu plusF) :=
  G3 (E := plusE belowF) Try.func76 (c := codeOf Try.f76) (by kernel_rfl) (bodied Try.func76 (by kernel_rfl) (by kernel_rfl)) iS iS iS oSu plusF fun a b m _ _ _ => DoesL.ends plusE_ok 300 (plus_run belowF a b m) (plusT_sat a b m)
noncomputable abbrev minusE : Env := En [(123, K3x addS addC), (137, K3x subS subB)]
theorem minusE_ok : EnvOk minusE := En_ok (.cons add64_ok (.cons sub64_ok .nil))
def minusT (a b m : Fp) : Tree (Option (Fp × Pr)) := .br (b2u (subT a b).2 == 1) (lfF (addT (subT a b).1 m).1) (lfF (subT a b).1)
theorem minus_run (a b m : Fp) : endT minusE oSu 300 Try.f126 (flat (codeOf Try.f126)) (startSt Try.f126 [iS.av 0 a, iS.av 1 b, iS.av 2 m] (iS.hes a ++ iS.hes b ++ iS.hes m)) = minusT a b m := by kernel_rfl
def minusF (a b m : Fp) : Fp := match b2u (subT a b).2 == 1 with
  | true => (addT (subT a b).1 m).1
  | false => (subT a b).1
theorem minus_ok : CallOk Try.prog 126 (K3 aS aS aS rSu minusF) :=
  G3 (E := minusE) Try.func126 (c := codeOf Try.f126) (by kernel_rfl) (bodied Try.func126 (by kernel_rfl) (by kernel_rfl)) iS iS iS oSu minusF fun a b m _ _ _ => DoesL.ends minusE_ok 300 (minus_run a b m)
    ⟨fun h => reads_t (by unfold minusF; rw [h]), fun h => reads_t (by unfold minusF; rw [h])⟩
abbrev K3s (F : Fp → Fp → Fp → Fp) : Contract := K3 aS aS aS rSu F
abbrev Kfp (F : List UInt64 → Fp) : Contract := K1 aL oF.res F
theorem addP_run (pF : Fp → Fp → Fp → Fp) (m a b : Fp) : plainRun (Ens [(76, K3s pF), (116, K0 rSu m), (117, Kfp ofL)] [76, 116]) rF 100 Try.f70 [vF a, vF b] = .leaf (some (pF a b m)) := by kernel_rfl
def addPF (a b : Fp) : Fp := plusF a b pLimbs
theorem addP_ok : CallOk Try.prog 70 (Kff addPF) := P2 (Ens_ok (.cons plus_ok (.cons refP_ok (.cons rfp_ok .nil)))) Try.func70 (bodied Try.func70 (by kernel_rfl) (by kernel_rfl)) 100 (kRow Fp) (kRow Fp) rF addPF (addP_run plusF pLimbs) (fun _ _ => Tree.sat_leaf (by simp only [addPF]))
theorem subP_run (pF : Fp → Fp → Fp → Fp) (m a b : Fp) : plainRun (Ens [(126, K3s pF), (116, K0 rSu m), (117, Kfp ofL)] [126, 116]) rF 100 Try.f112 [vF a, vF b] = .leaf (some (pF a b m)) := by kernel_rfl
def subPF (a b : Fp) : Fp := minusF a b pLimbs
theorem subP_ok : CallOk Try.prog 112 (Kff subPF) := P2 (Ens_ok (.cons minus_ok (.cons refP_ok (.cons rfp_ok .nil)))) Try.func112 (bodied Try.func112 (by kernel_rfl) (by kernel_rfl)) 100 (kRow Fp) (kRow Fp) rF subPF (subP_run minusF pLimbs) (fun _ _ => Tree.sat_leaf (by simp only [subPF]))
theorem negP_run (sF : Fp → Fp → Fp) (a : Fp) : plainRun (En [(112, Kff sF)]) rF 100 Try.f62 [vF a] = .leaf (some (sF zeroFp a)) := by kernel_rfl
def negPF (a : Fp) : Fp := subPF zeroFp a
theorem negP_ok : CallOk Try.prog 62 (Kf negPF) := P1 (En_ok (.cons subP_ok .nil)) Try.func62 (bodied Try.func62 (by kernel_rfl) (by kernel_rfl)) 100 (kRow Fp) rF negPF (negP_run subPF) (fun _ => Tree.sat_leaf (by simp only [negPF]))
theorem ofP_run (n : UInt64) : plainRun (En []) rF 100 Try.f71 [vU n] = .leaf (some (ofF n)) := by kernel_rfl
theorem ofP_ok : CallOk Try.prog 71 (K1 kU64.arg rF.res ofF) := P1 (En_ok .nil) Try.func71 (bodied Try.func71 (by kernel_rfl) (by kernel_rfl)) 100 kU64 rF ofF ofP_run (fun _ => Tree.sat_leaf rfl)
end Go.Proofs.Ytchlamfdofpolaa
set_option linter.unusedSimpArgs false
set_option linter.unusedVariables false
namespace Go.Proofs.Ytchlamfdofpolaa
open Go.RowKit
def rmL (x y t c : UInt64) : UInt64 := addS (addS t (x * y) false) c false
def rmH (x y t c : UInt64) : UInt64 := mulHi x y + b2u (addC t (x * y) false) + b2u (addC (addS t (x * y) false) c false)
theorem addS_comm (x y : UInt64) (c : Bool) : addS x y c = addS y x c := UInt64.toNat.inj (by rw [addS_nat, addS_nat, Nat.add_comm x.toNat])
theorem addC_comm (x y : UInt64) (c : Bool) : addC x y c = addC y x c := by
  have h1 := addC_nat x y c
  have h2 := addC_nat y x c
  rw [Nat.add_comm x.toNat, ← h2] at h1
  cases h3 : addC x y c <;> cases h4 : addC y x c <;> simp [h3, h4] at h1 <;> rfl
theorem rmL_eq (x y t c : UInt64) : rmL x y t c = macL x y t c := by unfold rmL macL; rw [addS_comm t]
theorem rmH_eq (x y t c : UInt64) : rmH x y t c = macH x y t c := by unfold rmH macH; rw [addS_comm t, addC_comm t]
def montB (m : Fp) (inv : UInt64) (t0 t1 t2 t3 t4 t5 top : UInt64) (more : Bool) : L7 :=
  let x := t0 * inv
  let d0 := mulHi x m.l0 + b2u (addC t0 (x * m.l0) false)
  let d1 := rmH x m.l1 t1 d0
  let d2 := rmH x m.l2 t2 d1
  let d3 := rmH x m.l3 t3 d2
  let d4 := rmH x m.l4 t4 d3
  let d5 := rmH x m.l5 t5 d4
  ⟨rmL x m.l1 t1 d0, rmL x m.l2 t2 d1, rmL x m.l3 t3 d2, rmL x m.l4 t4 d3, rmL x m.l5 t5 d4, addS top d5 false, b2u more + b2u (addC top d5 false)⟩
def montM (ai : UInt64) (b : Fp) (t : L7) : Bool :=
  let c0 := rmH ai b.l0 t.t0 0
  let c1 := rmH ai b.l1 t.t1 c0
  let c2 := rmH ai b.l2 t.t2 c1
  let c3 := rmH ai b.l3 t.t3 c2
  let c4 := rmH ai b.l4 t.t4 c3
  let c5 := rmH ai b.l5 t.t5 c4
  addC t.t6 c5 false
def montR (m : Fp) (inv : UInt64) (ai : UInt64) (b : Fp) (t : L7) : L7 :=
  let c0 := rmH ai b.l0 t.t0 0
  let c1 := rmH ai b.l1 t.t1 c0
  let c2 := rmH ai b.l2 t.t2 c1
  let c3 := rmH ai b.l3 t.t3 c2
  let c4 := rmH ai b.l4 t.t4 c3
  let c5 := rmH ai b.l5 t.t5 c4
  montB m inv (rmL ai b.l0 t.t0 0) (rmL ai b.l1 t.t1 c0) (rmL ai b.l2 t.t2 c1) (rmL ai b.l3 t.t3 c2) (rmL ai b.l4 t.t4 c3) (rmL ai b.l5 t.t5 c4) (addS t.t6 c5 false) (addC t.t6 c5 false)
noncomputable abbrev montC : List Code := flat (codeOf Try.f77)
noncomputable abbrev montO : Code := loopAt Try.f77 1
noncomputable abbrev montE (bF : Fp → Fp → Bool) : Env := En [(125, K2 kU64.arg kU64.arg (kU64.rs2 kU64).res fun x y => (mulHi x y, x * y)), (123, K3x addS addC), (53, K2 aS aS oB.res bF), (124, Ksub)]
theorem montE_ok : EnvOk (montE belowF) := En_ok (.cons mul64_ok (.cons add64_ok (.cons below_ok (.cons rsub_ok .nil))))
def slR (i n : Nat) : AV := .one (.c (.slc i 0 n 1 (.of 0) true))
def mSt (a b m : Fp) (inv : UInt64) (k : Nat) (t : List Cell) : St :=
  mkSt 222 [(0, slR 0 6), (1, slR 1 6), (2, slR 2 6), (7, litV 6), (8, vU inv), (10, slR 3 8), (11, litV k)] [.live ⟨false, 0, 1, .row (Row.cs a), false⟩, .live ⟨false, 0, 1, .row (Row.cs b), false⟩, .live ⟨false, 0, 1, .row (Row.cs m), false⟩, .live ⟨true, 22, 1, .row t, false⟩]
def mCut : X → Option (List Nat × List Nat) := same [0, 1, 2, 7, 8, 10, 11] [0, 1, 2, 3]
def eight (t : L7) (h : Bool) : List Cell := t.cs ++ [.bit h]
def newt (m x : UInt64) : UInt64 := x * (2 - m * x)
def montInv (m : UInt64) : UInt64 := 0 - newt m (newt m (newt m (newt m (newt m (newt m m)))))
set_option maxRecDepth 100000
theorem mont_start (bF : Fp → Fp → Bool) (a b m : Fp) : stageT (montE bF) 300 (montC.take 8) (startSt Try.f77 [iS.av 0 a, iS.av 1 b, iS.av 2 m] (iS.hes a ++ iS.hes b ++ iS.hes m)) [0, 1, 2, 7, 8, 10, 11] [0, 1, 2, 3] = .leaf (mSt a b m (montInv m.l0) 0 (zeros 8)) := by kernel_rfl
theorem mont_round0 (bF : Fp → Fp → Bool) (a b m : Fp) (inv : UInt64) : roundT (montE bF) 300 montO (mSt a b m inv 0 (zeros 8)) mCut = .leaf (.normal, mSt a b m inv 1 (eight (montR m inv a.l0 b ⟨0, 0, 0, 0, 0, 0, 0⟩) (montM a.l0 b ⟨0, 0, 0, 0, 0, 0, 0⟩))) := by kernel_rfl
theorem mont_round1 (bF : Fp → Fp → Bool) (a b m : Fp) (inv : UInt64) (t : L7) (h : Bool) : roundT (montE bF) 300 montO (mSt a b m inv 1 (eight t h)) mCut = .leaf (.normal, mSt a b m inv 2 (eight (montR m inv a.l1 b t) (montM a.l1 b t))) := by kernel_rfl
theorem mont_round2 (bF : Fp → Fp → Bool) (a b m : Fp) (inv : UInt64) (t : L7) (h : Bool) : roundT (montE bF) 300 montO (mSt a b m inv 2 (eight t h)) mCut = .leaf (.normal, mSt a b m inv 3 (eight (montR m inv a.l2 b t) (montM a.l2 b t))) := by kernel_rfl
theorem mont_round3 (bF : Fp → Fp → Bool) (a b m : Fp) (inv : UInt64) (t : L7) (h : Bool) : roundT (montE bF) 300 montO (mSt a b m inv 3 (eight t h)) mCut = .leaf (.normal, mSt a b m inv 4 (eight (montR m inv a.l3 b t) (montM a.l3 b t))) := by kernel_rfl
theorem mont_round4 (bF : Fp → Fp → Bool) (a b m : Fp) (inv : UInt64) (t : L7) (h : Bool) : roundT (montE bF) 300 montO (mSt a b m inv 4 (eight t h)) mCut = .leaf (.normal, mSt a b m inv 5 (eight (montR m inv a.l4 b t) (montM a.l4 b t))) := by kernel_rfl
theorem mont_round5 (bF : Fp → Fp → Bool) (a b m : Fp) (inv : UInt64) (t : L7) (h : Bool) : roundT (montE bF) 300 montO (mSt a b m inv 5 (eight t h)) mCut = .leaf (.normal, mSt a b m inv 6 (eight (montR m inv a.l5 b t) (montM a.l5 b t))) := by kernel_rfl
theorem mont_out (bF : Fp → Fp → Bool) (a b m : Fp) (inv : UInt64) (t : L7) (h : Bool) : roundT (montE bF) 300 montO (mSt a b m inv 6 (eight t h)) mCut = .leaf (.exit 2, mSt a b m inv 6 (eight t h)) := by kernel_rfl
def wrOk8 (m : Fp) : Prop := 0 < 8 ∧ 6 ≤ 8 ∧ 8 < 4294967296
def montT (bF : Fp → Fp → Bool) (m : Fp) (t : L7) : Tree (Option (Fp × Pr)) :=
  .br (t.t6 != 0) (.vc (wrOk8 m) (lfF (subT t.low m).1)) (.br (!(bF t.low m)) (.vc (wrOk8 m) (lfF (subT t.low m).1)) (lfF t.low))
theorem mont_end (bF : Fp → Fp → Bool) (a b m : Fp) (inv : UInt64) (t : L7) (h : Bool) : endT (montE bF) oSu 300 Try.f77 (montC.drop 9) (mSt a b m inv 6 (eight t h)) = montT bF m t := by kernel_rfl
def montE7 (m : Fp) (t : L7) : Fp := match t.t6 != 0 with
  | true => (subT t.low m).1
  | false => match !(belowF t.low m) with
    | true => (subT t.low m).1
    | false => t.low
def mont1 (a b m : Fp) : L7 := montR m (montInv m.l0) a.l0 b ⟨0, 0, 0, 0, 0, 0, 0⟩
def mont2 (a b m : Fp) : L7 := montR m (montInv m.l0) a.l1 b (mont1 a b m)
def mont3 (a b m : Fp) : L7 := montR m (montInv m.l0) a.l2 b (mont2 a b m)
def mont4 (a b m : Fp) : L7 := montR m (montInv m.l0) a.l3 b (mont3 a b m)
def mont5 (a b m : Fp) : L7 := montR m (montInv m.l0) a.l4 b (mont4 a b m)
def mont6 (a b m : Fp) : L7 := montR m (montInv m.l0) a.l5 b (mont5 a b m)
def montF (a b m : Fp) : Fp := montE7 m (mont6 a b m)
theorem montT_sat (m : Fp) (t : L7) : (montT belowF m t).sat fun q => ∃ p, q = some (montE7 m t, p) ∧ p.holds := by
  have w : wrOk8 m := ⟨by decide, by decide, by decide⟩
  refine ⟨fun h => ⟨w, fun _ => ?_⟩, fun h => ⟨fun h2 => ⟨w, fun _ => ?_⟩, fun h2 => ?_⟩⟩
  · exact reads_t (by unfold montE7; rw [h])
  · exact reads_t (by unfold montE7; rw [h, h2])
  · exact reads_t (by unfold montE7; rw [h, h2])
def mAt (a b m : Fp) (q : Fin 7 × Bool) : St :=
  match q.1 with
  | 0 => mSt a b m (montInv m.l0) 0 (zeros 8)
  | 1 => mSt a b m (montInv m.l0) 1 (eight (mont1 a b m) q.2)
  | 2 => mSt a b m (montInv m.l0) 2 (eight (mont2 a b m) q.2)
  | 3 => mSt a b m (montInv m.l0) 3 (eight (mont3 a b m) q.2)
  | 4 => mSt a b m (montInv m.l0) 4 (eight (mont4 a b m) q.2)
  | 5 => mSt a b m (montInv m.l0) 5 (eight (mont5 a b m) q.2)
  | 6 => mSt a b m (montInv m.l0) 6 (eight (mont6 a b m) q.2)
theorem mont_split : montC.drop 8 = .block 2 (.loop montO) :: montC.drop 9 := by kernel_rfl
theorem mont_ok : CallOk Try.prog 77 (K3 aS aS aS rSu montF) :=
  G3 (E := montE belowF) Try.func77 (c := codeOf Try.f77) (by kernel_rfl) (bodied Try.func77 (by kernel_rfl) (by kernel_rfl)) iS iS iS oSu montF fun a b m _ _ _ => by
    have hE := montE_ok
    refine DoesL.stageTo hE 300 8 _ _ (mont_start belowF a b m) ?_
    refine DoesL.blockLoop mont_split (mAt a b m) (fun q => 6 - q.1.1) (0, false) fun q => ?_
    obtain ⟨k, h⟩ := q
    match k with
    | 0 => exact Does.round hE 300 mCut (mont_round0 belowF a b m _) ⟨(1, montM a.l0 b ⟨0, 0, 0, 0, 0, 0, 0⟩), by show 6 - 1 < 6 - 0; decide, by simp only [mAt, mont1]⟩
    | 1 => exact Does.round hE 300 mCut (mont_round1 belowF a b m _ (mont1 a b m) h) ⟨(2, montM a.l1 b (mont1 a b m)), by show 6 - 2 < 6 - 1; decide, by simp only [mAt, mont2]⟩
    | 2 => exact Does.round hE 300 mCut (mont_round2 belowF a b m _ (mont2 a b m) h) ⟨(3, montM a.l2 b (mont2 a b m)), by show 6 - 3 < 6 - 2; decide, by simp only [mAt, mont3]⟩
    | 3 => exact Does.round hE 300 mCut (mont_round3 belowF a b m _ (mont3 a b m) h) ⟨(4, montM a.l3 b (mont3 a b m)), by show 6 - 4 < 6 - 3; decide, by simp only [mAt, mont4]⟩
    | 4 => exact Does.round hE 300 mCut (mont_round4 belowF a b m _ (mont4 a b m) h) ⟨(5, montM a.l4 b (mont4 a b m)), by show 6 - 5 < 6 - 4; decide, by simp only [mAt, mont5]⟩
    | 5 => exact Does.round hE 300 mCut (mont_round5 belowF a b m _ (mont5 a b m) h) ⟨(6, montM a.l5 b (mont5 a b m)), by show 6 - 6 < 6 - 5; decide, by simp only [mAt, mont6]⟩
    | 6 => exact Does.round hE 300 mCut (mont_out belowF a b m _ (mont6 a b m) h) ⟨rfl, DoesL.ends hE 300 (mont_end belowF a b m _ (mont6 a b m) h) (montT_sat m (mont6 a b m))⟩
theorem mulP_run (pF : Fp → Fp → Fp → Fp) (m a b : Fp) : plainRun (Ens [(77, K3s pF), (116, K0 rSu m), (117, Kfp ofL)] [77, 116]) rF 100 Try.f69 [vF a, vF b] = .leaf (some (pF (pF a b m) sqLimbs m)) := by kernel_rfl
def mulPF (a b : Fp) : Fp := montF (montF a b pLimbs) sqLimbs pLimbs
theorem mulP_ok : CallOk Try.prog 69 (Kff mulPF) := P2 (Ens_ok (.cons mont_ok (.cons refP_ok (.cons rfp_ok .nil)))) Try.func69 (bodied Try.func69 (by kernel_rfl) (by kernel_rfl)) 100 (kRow Fp) (kRow Fp) rF mulPF (mulP_run montF pLimbs) (fun _ _ => Tree.sat_leaf (by simp only [mulPF]))
end Go.Proofs.Ytchlamfdofpolaa
set_option linter.unusedSimpArgs false
set_option linter.unusedVariables false
namespace Go.Proofs.Ytchlamfdofpolaa
open Go.RowKit
abbrev Kof' (F : UInt64 → Fp) : Contract := K1 kU64.arg rF.res F
noncomputable abbrev powPC : List Code := flat (codeOf Try.f118)
noncomputable abbrev powPB : Code := loopAt Try.f118 0
noncomputable abbrev powPE (oF' : UInt64 → Fp) (mF : Fp → Fp → Fp) (bF : List UInt64 → Nat → UInt64) : Env := En [(71, Kof' oF'), (69, Kff mF), (142, K2 aL argIdx kU64.rs.res bF)]
theorem powPE_ok : EnvOk (powPE ofF mulPF bitF) := En_ok (.cons ofP_ok (.cons mulP_ok (.cons bit_ok .nil)))
def powPSt (e : List UInt64) (a x : Fp) (z : Int) : St := mkSt 27 [(1, inV 0 e), (2, ptrV 1), (4, ptrV 2), (5, ptrV 3), (6, vI z)] [inHE eU64 e, own 28 (Row.cs a), own 28 (zeros 6), own 28 (Row.cs x)]
theorem powP_start (oF' : UInt64 → Fp) (mF : Fp → Fp → Fp) (bF : List UInt64 → Nat → UInt64) (a : Fp) (e : List UInt64) : stageT (powPE oF' mF bF) 100 (powPC.take 3) (startSt Try.f118 [vF a, iL.av 0 e] [inHE eU64 e]) [1, 2, 4, 5, 6] [0, 1, 2, 3] =
  (.vc (0 + e.length * 1 ≤ (List.map EK.u64.cell e).length ∧ 0 < 1)
    (.leaf (mkSt 27 [(1, .one (.c (.slc 0 0 (e.length) 1 (.of 0) false))), (2, .one (.c (.ptr 1 0))), (4, .one (.c (.ptr 2 0))), (5, .one (.c (.ptr 3 0))), (6, .one (.c (.int .i64 (IntKind.i64.wrap (IntKind.i64.wrap (64 * (↑e.length : Int)) - 1)))))] [.live ⟨false, 0, 1, (.elts .u64 (e : List UInt64)), false⟩, .live ⟨true, 28, 0, (.row (Row.cs (a : Fp))), false⟩, .live ⟨true, 28, 0, (.row [(.lit .u64 0), (.lit .u64 0), (.lit .u64 0), (.lit .u64 0), (.lit .u64 0), (.lit .u64 0)]), false⟩, .live ⟨true, 28, 0, (.row (Row.cs (oF' (UInt64.ofNat 1) : Fp))), false⟩]))) := by kernel_rfl
theorem powP_round (oF' : UInt64 → Fp) (mF : Fp → Fp → Fp) (bF : List UInt64 → Nat → UInt64) (a x : Fp) (e : List UInt64) (z : Int) : roundT (powPE oF' mF bF) 100 powPB (powPSt e a x z) (same [1, 2, 4, 5, 6] [0, 1, 2, 3]) =
  (.br (decide (z ≥ 0))
    (.vc ((0 + e.length ≤ e.length ∧ e.length < 1125899906842624 ∧ 0 = 0 ∧ 1 = 1) ∧ 0 ≤ z ∧ z < 9223372036854775808)
      (.br (bF (List.take e.length (List.drop 0 e)) z.toNat == UInt64.ofNat 1)
        (.leaf ((.normal, mkSt 27 [(1, .one (.c (.slc 0 0 (e.length) 1 (.of 0) false))), (2, .one (.c (.ptr 1 0))), (4, .one (.c (.ptr 2 0))), (5, .one (.c (.ptr 3 0))), (6, .one (.c (.int .i64 (IntKind.i64.wrap (z - 1)))))] [.live ⟨false, 0, 1, (.elts .u64 (e : List UInt64)), false⟩, .live ⟨true, 28, 0, (.row (Row.cs (a : Fp))), false⟩, .live ⟨true, 28, 0, (.row [(.lit .u64 0), (.lit .u64 0), (.lit .u64 0), (.lit .u64 0), (.lit .u64 0), (.lit .u64 0)]), false⟩, .live ⟨true, 28, 0, (.row (Row.cs (mF (mF x x) a : Fp))), false⟩])))
        (.leaf ((.normal, mkSt 27 [(1, .one (.c (.slc 0 0 (e.length) 1 (.of 0) false))), (2, .one (.c (.ptr 1 0))), (4, .one (.c (.ptr 2 0))), (5, .one (.c (.ptr 3 0))), (6, .one (.c (.int .i64 (IntKind.i64.wrap (z - 1)))))] [.live ⟨false, 0, 1, (.elts .u64 (e : List UInt64)), false⟩, .live ⟨true, 28, 0, (.row (Row.cs (a : Fp))), false⟩, .live ⟨true, 28, 0, (.row [(.lit .u64 0), (.lit .u64 0), (.lit .u64 0), (.lit .u64 0), (.lit .u64 0), (.lit .u64 0)]), false⟩, .live ⟨true, 28, 0, (.row (Row.cs (mF x x : Fp))), false⟩])))))
    (.leaf ((.exit 0, mkSt 27 [(1, .one (.c (.slc 0 0 (e.length) 1 (.of 0) false))), (2, .one (.c (.ptr 1 0))), (4, .one (.c (.ptr 2 0))), (5, .one (.c (.ptr 3 0))), (6, .one (.c (.int .i64 (z))))] [.live ⟨false, 0, 1, (.elts .u64 (e : List UInt64)), false⟩, .live ⟨true, 28, 0, (.row (Row.cs (a : Fp))), false⟩, .live ⟨true, 28, 0, (.row [(.lit .u64 0), (.lit .u64 0), (.lit .u64 0), (.lit .u64 0), (.lit .u64 0), (.lit .u64 0)]), false⟩, .live ⟨true, 28, 0, (.row (Row.cs (x : Fp))), false⟩])))) := by kernel_rfl
theorem powP_end (oF' : UInt64 → Fp) (mF : Fp → Fp → Fp) (bF : List UInt64 → Nat → UInt64) (a x : Fp) (e : List UInt64) (z : Int) : endT (powPE oF' mF bF) oF 100 Try.f118 (powPC.drop 4) (powPSt e a x z) =
  (.leaf (some ((x, .t)))) := by kernel_rfl
def powPAt (a : Fp) (e : List UInt64) : Nat → Fp → Fp
  | 0, x => x
  | n + 1, x => powPAt a e n (match bitAt e n with | true => mulPF (mulPF x x) a | false => mulPF x x)
def powPF (a : Fp) (e : List UInt64) : Fp := powPAt a e (64 * e.length) (ofF 1)
abbrev PowPOk (a : Fp) (e : List UInt64) : Type := { q : Int × Fp // -1 ≤ q.1 ∧ q.1 < 64 * e.length ∧ powPAt a e (q.1 + 1).toNat q.2 = powPF a e }
theorem powP_ok : CallOk Try.prog 118 (K2 (kRow Fp).arg aL rF.res powPF) :=
  G2 (E := powPE ofF mulPF bitF) Try.func118 (c := codeOf Try.f118) (by kernel_rfl) (bodied Try.func118 (by kernel_rfl) (by kernel_rfl)) (kRow Fp).inp iL oF powPF fun a e _ he => by
    have he : e.length < 1125899906842624 := he
    have hE := powPE_ok
    refine DoesL.stageE hE 100 3 _ _ (powP_start ofF mulPF bitF a e) ⟨vcLen e, fun _ => ?_⟩
    have hw : IntKind.i64.wrap (IntKind.i64.wrap (64 * (e.length : Int)) - 1) = 64 * (e.length : Int) - 1 := by rw [IntWalk.i64_in (64 * (e.length : Int)) (by omega), IntWalk.i64_in _ (by omega)]
    rw [hw]
    refine DoesL.blockLoop (B := powPB) (rest := powPC.drop 4) (id := 0) (by kernel_rfl) (fun q : PowPOk a e => powPSt e a q.1.2 q.1.1) (fun q => (q.1.1 + 1).toNat) ⟨(64 * (e.length : Int) - 1, ofF 1), by simp only []; omega, by simp only []; omega, by
      simp only []
      rw [show (64 * (e.length : Int) - 1 + 1).toNat = 64 * e.length by omega]
      rfl⟩ fun q => ?_
    obtain ⟨⟨z, x⟩, h0, h1, h2⟩ := q
    simp only [] at h0 h1 h2
    show Does _ _ (powPSt e a x z) _
    refine Does.round hE 100 _ (powP_round ofF mulPF bitF a x e z) ⟨fun h => ?_, fun h => ?_⟩
    · simp only [ge_iff_le, decide_eq_true_eq] at h
      obtain ⟨n, rfl⟩ : ∃ n : Nat, z = (n : Int) := ⟨z.toNat, by omega⟩
      rw [wrap_pred n (by omega), whole, Int.toNat_natCast]
      rw [show ((n : Int) + 1).toNat = n + 1 by omega] at h2
      simp only [powPAt] at h2
      have hb : (bitF e n == UInt64.ofNat 1) = bitAt e n := by
        unfold bitF
        cases bitAt e n <;> rfl
      rw [hb]
      refine ⟨⟨okL' he, by omega, by omega⟩, fun _ => ⟨fun h3 => ?_, fun h3 => ?_⟩⟩
      all_goals
        have hn : ((n : Int) - 1 + 1).toNat = n := by omega
        rw [h3] at h2
        simp only [] at h2
      · refine ⟨⟨((n : Int) - 1, mulPF (mulPF x x) a), ?_, ?_, ?_⟩, ?_, ?_⟩
        · show -1 ≤ (n : Int) - 1; omega
        · show (n : Int) - 1 < 64 * e.length; omega
        · simpa only [hn] using h2
        · show ((n : Int) - 1 + 1).toNat < ((n : Int) + 1).toNat; omega
        · kernel_rfl
      · refine ⟨⟨((n : Int) - 1, mulPF x x), ?_, ?_, ?_⟩, ?_, ?_⟩
        · show -1 ≤ (n : Int) - 1; omega
        · show (n : Int) - 1 < 64 * e.length; omega
        · simpa only [hn] using h2
        · show ((n : Int) - 1 + 1).toNat < ((n : Int) + 1).toNat; omega
        · kernel_rfl
    · simp only [ge_iff_le, decide_eq_false_iff_not] at h
      obtain rfl : z = -1 := by omega
      exact ⟨rfl, DoesL.ends hE 100 (powP_end ofF mulPF bitF a x e (-1)) (reads_t (by
        rw [show ((-1 : Int) + 1).toNat = 0 from rfl] at h2
        simp only [powPAt] at h2
        exact h2))⟩
abbrev Kpow' (F : Fp → List UInt64 → Fp) : Contract := K2 (kRow Fp).arg aL rF.res F
noncomputable abbrev invPE (m : Fp) (lF : List UInt64 → List UInt64 → List UInt64 × Int) (pF : Fp → List UInt64 → Fp) : Env := Ens [(116, K0 rSu m), (139, K2 aLt aLt rLI lF), (118, Kpow' pF)] [116, 139]
theorem invP_run (m : Fp) (lF : List UInt64 → List UInt64 → List UInt64 × Int) (pF : Fp → List UInt64 → Fp) (a : Fp) : plainRun (invPE m lF pF) rFI 100 Try.f106 [vF a] =
  (.br (fpEq (a) ({ l0 := UInt64.ofNat 0, l1 := UInt64.ofNat 0, l2 := UInt64.ofNat 0, l3 := UInt64.ofNat 0, l4 := UInt64.ofNat 0, l5 := UInt64.ofNat 0 }))
    (.leaf (some ((a, 7))))
    (.vc (tiny [m.l0, m.l1, m.l2, m.l3, m.l4, m.l5] ∧ tiny [UInt64.ofNat 2])
      (.vc (0 + (lF [m.l0, m.l1, m.l2, m.l3, m.l4, m.l5] [UInt64.ofNat 2]).fst.length ≤ (lF [m.l0, m.l1, m.l2, m.l3, m.l4, m.l5] [UInt64.ofNat 2]).fst.length ∧ (lF [m.l0, m.l1, m.l2, m.l3, m.l4, m.l5] [UInt64.ofNat 2]).fst.length < 1125899906842624 ∧ 0 = 0 ∧ 1 = 1)
        (.leaf (some ((pF a (List.take (lF [m.l0, m.l1, m.l2, m.l3, m.l4, m.l5] [UInt64.ofNat 2]).fst.length (List.drop 0 (lF [m.l0, m.l1, m.l2, m.l3, m.l4, m.l5] [UInt64.ofNat 2]).fst)), 0))))))) := by kernel_rfl
theorem cutF_len (xs : List UInt64) : (cutF xs).length ≤ xs.length := by unfold cutF; rw [List.length_take]; omega
theorem rless_len (xs ys : List UInt64) : (rlessF xs ys).1.length ≤ max xs.length ys.length := by
  unfold rlessF
  split
  · simp
  · have h := cutF_len (subAt xs ys (max xs.length ys.length)).1
    rw [subAt_len] at h
    exact h
theorem pList_len : pLimbs.list.length = 6 := rfl
def pm2 : List UInt64 := (rlessF pLimbs.list [2]).1
def invPF (a : Fp) : Fp × Int := match fpEq a zeroFp with | true => (a, 7) | false => (powPF a pm2, 0)
theorem pm2_len : pm2.length ≤ 6 := rless_len pLimbs.list [2]
theorem invP_ok : CallOk Try.prog 106 (K1 (kRow Fp).arg rFI.res invPF) :=
  P1 (E := invPE pLimbs rlessF powPF) (Ens_ok (.cons refP_ok (.cons rless_ok (.cons powP_ok .nil)))) Try.func106 (bodied Try.func106 (by kernel_rfl) (by kernel_rfl)) 100 (kRow Fp) rFI invPF (invP_run pLimbs rlessF powPF)
    (fun a => by
      refine ⟨fun h => ?_, fun h => ⟨⟨?_, ?_⟩, fun _ => ⟨okL' ?_, fun _ => ?_⟩⟩⟩
      · have h : fpEq a zeroFp = true := h
        exact congrArg some (by unfold invPF; rw [h])
      · show pLimbs.list.length < _; rw [pList_len]; decide
      · show 1 < 4294967296; decide
      · exact Nat.lt_of_le_of_lt pm2_len (by decide)
      · have h : fpEq a zeroFp = false := h
        rw [whole]
        exact congrArg some (by unfold invPF; rw [h]; rfl))
end Go.Proofs.Ytchlamfdofpolaa

set_option linter.unusedSimpArgs false
set_option linter.unusedVariables false
namespace Go.Proofs.Ytchlamfdofpolaa
open Go.RowKit
def add2R_G (f0 : Fp → Fp → Fp) (a : Fp2) (b : Fp2) : Fp2 := ({ c0 := f0 a.c0 b.c0, c1 := f0 a.c1 b.c1 })
def add2R_T (f0 : Fp → Fp → Fp) (a : Fp2) (b : Fp2) : Tree (Option (Fp2)) :=
  (.leaf (some ({ c0 := f0 a.c0 b.c0, c1 := f0 a.c1 b.c1 })))
theorem add2R_run (f0 : Fp → Fp → Fp) (a : Fp2) (b : Fp2) : plainRun (En [(70, Kff f0)]) (kRow Fp2).rs 300 Try.f94 [.one ((kRow Fp2).av a), .one ((kRow Fp2).av b)] = add2R_T f0 a b := by kernel_rfl
theorem add2R_sat (f0 : Fp → Fp → Fp) (a : Fp2) (b : Fp2) : (add2R_T f0 a b).sat fun q => q = some (add2R_G f0 a b) := (show some _ = some _ from rfl)
def add2R (a : Fp2) (b : Fp2) : Fp2 := add2R_G addPF a b
theorem add2R_ok : CallOk Try.prog 94 (K2 (kRow Fp2).arg (kRow Fp2).arg (kRow Fp2).rs.res add2R) :=
  P2 (En_ok (.cons addP_ok .nil)) Try.func94 (bodied Try.func94 (by kernel_rfl) (by kernel_rfl)) 300 (kRow Fp2) (kRow Fp2) (kRow Fp2).rs add2R (add2R_run addPF) (add2R_sat addPF)
def sub2R_G (f0 : Fp → Fp → Fp) (a : Fp2) (b : Fp2) : Fp2 := ({ c0 := f0 a.c0 b.c0, c1 := f0 a.c1 b.c1 })
def sub2R_T (f0 : Fp → Fp → Fp) (a : Fp2) (b : Fp2) : Tree (Option (Fp2)) :=
  (.leaf (some ({ c0 := f0 a.c0 b.c0, c1 := f0 a.c1 b.c1 })))
theorem sub2R_run (f0 : Fp → Fp → Fp) (a : Fp2) (b : Fp2) : plainRun (En [(112, Kff f0)]) (kRow Fp2).rs 300 Try.f108 [.one ((kRow Fp2).av a), .one ((kRow Fp2).av b)] = sub2R_T f0 a b := by kernel_rfl
theorem sub2R_sat (f0 : Fp → Fp → Fp) (a : Fp2) (b : Fp2) : (sub2R_T f0 a b).sat fun q => q = some (sub2R_G f0 a b) := (show some _ = some _ from rfl)
def sub2R (a : Fp2) (b : Fp2) : Fp2 := sub2R_G subPF a b
theorem sub2R_ok : CallOk Try.prog 108 (K2 (kRow Fp2).arg (kRow Fp2).arg (kRow Fp2).rs.res sub2R) :=
  P2 (En_ok (.cons subP_ok .nil)) Try.func108 (bodied Try.func108 (by kernel_rfl) (by kernel_rfl)) 300 (kRow Fp2) (kRow Fp2) (kRow Fp2).rs sub2R (sub2R_run subPF) (sub2R_sat subPF)
def mul2R_G (f0 : Fp → Fp → Fp) (f1 : Fp → Fp → Fp) (f2 : Fp → Fp → Fp) (a : Fp2) (b : Fp2) : Fp2 := ({ c0 := f0 (f1 a.c0 b.c0) (f1 a.c1 b.c1), c1 := f2 (f1 a.c0 b.c1) (f1 a.c1 b.c0) })
def mul2R_T (f0 : Fp → Fp → Fp) (f1 : Fp → Fp → Fp) (f2 : Fp → Fp → Fp) (a : Fp2) (b : Fp2) : Tree (Option (Fp2)) :=
  (.leaf (some ({ c0 := f0 (f1 a.c0 b.c0) (f1 a.c1 b.c1), c1 := f2 (f1 a.c0 b.c1) (f1 a.c1 b.c0) })))
theorem mul2R_run (f0 : Fp → Fp → Fp) (f1 : Fp → Fp → Fp) (f2 : Fp → Fp → Fp) (a : Fp2) (b : Fp2) : plainRun (En [(112, Kff f0), (69, Kff f1), (70, Kff f2)]) (kRow Fp2).rs 300 Try.f93 [.one ((kRow Fp2).av a), .one ((kRow Fp2).av b)] = mul2R_T f0 f1 f2 a b := by kernel_rfl
theorem mul2R_sat (f0 : Fp → Fp → Fp) (f1 : Fp → Fp → Fp) (f2 : Fp → Fp → Fp) (a : Fp2) (b : Fp2) : (mul2R_T f0 f1 f2 a b).sat fun q => q = some (mul2R_G f0 f1 f2 a b) := (show some _ = some _ from rfl)
def mul2R (a : Fp2) (b : Fp2) : Fp2 := mul2R_G subPF mulPF addPF a b
theorem mul2R_ok : CallOk Try.prog 93 (K2 (kRow Fp2).arg (kRow Fp2).arg (kRow Fp2).rs.res mul2R) :=
  P2 (En_ok (.cons subP_ok (.cons mulP_ok (.cons addP_ok .nil)))) Try.func93 (bodied Try.func93 (by kernel_rfl) (by kernel_rfl)) 300 (kRow Fp2) (kRow Fp2) (kRow Fp2).rs mul2R (mul2R_run subPF mulPF addPF) (mul2R_sat subPF mulPF addPF)
def conj2R_G (f0 : Fp → Fp) (a : Fp2) : Fp2 := ({ c0 := a.c0, c1 := f0 a.c1 })
def conj2R_T (f0 : Fp → Fp) (a : Fp2) : Tree (Option (Fp2)) :=
  (.leaf (some ({ c0 := a.c0, c1 := f0 a.c1 })))
theorem conj2R_run (f0 : Fp → Fp) (a : Fp2) : plainRun (En [(62, Kf f0)]) (kRow Fp2).rs 300 Try.f149 [.one ((kRow Fp2).av a)] = conj2R_T f0 a := by kernel_rfl
theorem conj2R_sat (f0 : Fp → Fp) (a : Fp2) : (conj2R_T f0 a).sat fun q => q = some (conj2R_G f0 a) := (show some _ = some _ from rfl)
def conj2R (a : Fp2) : Fp2 := conj2R_G negPF a
theorem conj2R_ok : CallOk Try.prog 149 (K1 (kRow Fp2).arg (kRow Fp2).rs.res conj2R) :=
  P1 (En_ok (.cons negP_ok .nil)) Try.func149 (bodied Try.func149 (by kernel_rfl) (by kernel_rfl)) 300 (kRow Fp2) (kRow Fp2).rs conj2R (conj2R_run negPF) (conj2R_sat negPF)
def one2R_G (f0 : UInt64 → Fp) : Fp2 := ({ c0 := f0 (1 : UInt64), c1 := zeroFp })
def one2R_T (f0 : UInt64 → Fp) : Tree (Option (Fp2)) :=
  (.leaf (some ({ c0 := f0 (1 : UInt64), c1 := zeroFp })))
theorem one2R_run (f0 : UInt64 → Fp) : plainRun (En [(71, Kof f0)]) (kRow Fp2).rs 300 Try.f111 [] = one2R_T f0 := by kernel_rfl
theorem one2R_sat (f0 : UInt64 → Fp) : (one2R_T f0).sat fun q => q = some (one2R_G f0) := (show some _ = some _ from rfl)
def one2R  : Fp2 := one2R_G ofF
theorem one2R_ok : CallOk Try.prog 111 (K0 (kRow Fp2).rs.res one2R) :=
  P0 (En_ok (.cons ofP_ok .nil)) Try.func111 (bodied Try.func111 (by kernel_rfl) (by kernel_rfl)) 300  (kRow Fp2).rs one2R (one2R_run ofF) (one2R_sat ofF)
def xi2R_G (f0 : UInt64 → Fp) : Fp2 := ({ c0 := f0 (1 : UInt64), c1 := f0 (1 : UInt64) })
def xi2R_T (f0 : UInt64 → Fp) : Tree (Option (Fp2)) :=
  (.leaf (some ({ c0 := f0 (1 : UInt64), c1 := f0 (1 : UInt64) })))
theorem xi2R_run (f0 : UInt64 → Fp) : plainRun (En [(71, Kof f0)]) (kRow Fp2).rs 300 Try.f140 [] = xi2R_T f0 := by kernel_rfl
theorem xi2R_sat (f0 : UInt64 → Fp) : (xi2R_T f0).sat fun q => q = some (xi2R_G f0) := (show some _ = some _ from rfl)
def xi2R  : Fp2 := xi2R_G ofF
theorem xi2R_ok : CallOk Try.prog 140 (K0 (kRow Fp2).rs.res xi2R) :=
  P0 (En_ok (.cons ofP_ok .nil)) Try.func140 (bodied Try.func140 (by kernel_rfl) (by kernel_rfl)) 300  (kRow Fp2).rs xi2R (xi2R_run ofF) (xi2R_sat ofF)
def inv2R_G (f0 : Fp2 → Fp2 → Fp2) (f1 : Fp2 → Fp2) (f2 : Fp → Fp × Int) (a : Fp2) : Fp2 × Int := (match ((f2 (f0 a (f1 a)).c0).snd != 0) with | true => ((zeroFp2, (f2 (f0 a (f1 a)).c0).snd)) | false => ((f0 (f1 a) { c0 := (f2 (f0 a (f1 a)).c0).fst, c1 := zeroFp }, 0)))
def inv2R_T (f0 : Fp2 → Fp2 → Fp2) (f1 : Fp2 → Fp2) (f2 : Fp → Fp × Int) (a : Fp2) : Tree (Option (Fp2 × Int)) :=
  (.br ((f2 (f0 a (f1 a)).c0).snd != 0)
    (.leaf (some ((zeroFp2, (f2 (f0 a (f1 a)).c0).snd))))
    (.leaf (some ((f0 (f1 a) { c0 := (f2 (f0 a (f1 a)).c0).fst, c1 := zeroFp }, 0)))))
theorem inv2R_run (f0 : Fp2 → Fp2 → Fp2) (f1 : Fp2 → Fp2) (f2 : Fp → Fp × Int) (a : Fp2) : plainRun (En [(93, K2 (kRow Fp2).arg (kRow Fp2).arg (kRow Fp2).rs.res f0), (149, K1 (kRow Fp2).arg (kRow Fp2).rs.res f1), (106, Kinv f2)]) ((kRow Fp2).rs2 kInt) 300 Try.f133 [.one ((kRow Fp2).av a)] = inv2R_T f0 f1 f2 a := by kernel_rfl
theorem inv2R_sat (f0 : Fp2 → Fp2 → Fp2) (f1 : Fp2 → Fp2) (f2 : Fp → Fp × Int) (a : Fp2) : (inv2R_T f0 f1 f2 a).sat fun q => q = some (inv2R_G f0 f1 f2 a) := ⟨fun h0 => (show some _ = some _ from congrArg some (by unfold inv2R_G; rw [h0])), fun h0 => (show some _ = some _ from congrArg some (by unfold inv2R_G; rw [h0]))⟩
def inv2R (a : Fp2) : Fp2 × Int := inv2R_G mul2R conj2R invPF a
theorem inv2R_ok : CallOk Try.prog 133 (K1 (kRow Fp2).arg ((kRow Fp2).rs2 kInt).res inv2R) :=
  P1 (En_ok (.cons mul2R_ok (.cons conj2R_ok (.cons invP_ok .nil)))) Try.func133 (bodied Try.func133 (by kernel_rfl) (by kernel_rfl)) 300 (kRow Fp2) ((kRow Fp2).rs2 kInt) inv2R (inv2R_run mul2R conj2R invPF) (inv2R_sat mul2R conj2R invPF)
end Go.Proofs.Ytchlamfdofpolaa

set_option linter.unusedSimpArgs false
set_option linter.unusedVariables false
namespace Go.Proofs.Ytchlamfdofpolaa
open Go.RowKit
def Fp6.nth (a : Fp6) : Nat → Fp2
  | 0 => a.c0
  | 1 => a.c1
  | _ => a.c2
end Go.Proofs.Ytchlamfdofpolaa

set_option linter.unusedSimpArgs false
set_option linter.unusedVariables false
namespace Go.Proofs.Ytchlamfdofpolaa
open Go.RowKit
theorem bit5_run (e : List UInt64) (i : Int) : endT (En []) oB 100 Try.f113 (flat (codeOf Try.f113)) (startSt Try.f113 [iL.av 0 e, vI i] [inHE eU64 e]) =
  (.vc ((0 ≤ IntKind.i64.wrap (i.tdiv 64) ∧ IntKind.i64.wrap (i.tdiv 64) < (↑e.length : Int)) ∧ 0 + e.length * 1 ≤ (List.map EK.u64.cell e).length ∧ 0 < 1)
    (.vc (0 + (IntKind.i64.wrap (i.tdiv 64)).toNat * 1 < e.length)
      (.vc (0 ≤ i.tmod 64)
        (.leaf (some ((shrU (e.getD (0 + (IntKind.i64.wrap (i.tdiv 64)).toNat * 1) 0) (i.tmod 64) &&& UInt64.ofNat 1 == UInt64.ofNat 1, .t))))))) := by kernel_rfl
abbrev bitIn (e : List UInt64) (i : Nat) : Prop := i < 64 * e.length
abbrev Kbit (F : List UInt64 → Nat → Bool) : Contract := K2c aL argNat bitIn kBool.rs.res F
theorem bit5_ok : CallOk Try.prog 113 (Kbit bitAt) :=
  G2c (E := En []) Try.func113 (c := codeOf Try.f113) (by kernel_rfl) (bodied Try.func113 (by kernel_rfl) (by kernel_rfl)) iL inpNat bitIn oB bitAt fun e i he _ hk => by
    have he : e.length < 1125899906842624 := he
    have hk : i < 64 * e.length := hk
    have hi : i < 9223372036854775808 := by omega
    have hq : i / 64 < e.length := by omega
    refine DoesL.ends (En_ok .nil) 100 (bit5_run e (i : Int)) ?_
    rw [natdiv_Z i hi, natmod_Z]
    refine ⟨vcIdx hq, fun _ => ⟨vcGet hq, fun _ => ⟨by omega, fun _ => reads_t ?_⟩⟩⟩
    rw [getZ]
    exact shr_bit _ _ (by omega)
end Go.Proofs.Ytchlamfdofpolaa

set_option linter.unusedSimpArgs false
set_option linter.unusedVariables false
namespace Go.Proofs.Ytchlamfdofpolaa
open Go.RowKit
def rLimbs : Fr := ⟨0xffffffff00000001, 0x53bda402fffe5bfe, 0x3339d80809a1d805, 0x73eda753299d7d48⟩
def sq4Limbs : Fr := ⟨0xc999e990f3f29c6d, 0x2b6cedcb87925c23, 0x05d314967254398f, 0x0748d9d99f59ff11⟩
def zeroFr : Fr := ⟨0, 0, 0, 0⟩
abbrev r4 : Rs Fr := (kRow Fr).rs
abbrev v4 (a : Fr) : AV := .one ((kRow Fr).av a)
abbrev Kr2 (F : Fr → Fr → Fr) : Contract := K2 (kRow Fr).arg (kRow Fr).arg r4.res F
abbrev Krb (F : Fr → Bool) : Contract := K1 (kRow Fr).arg kBool.rs.res F
def Fr.list (a : Fr) : List UInt64 := [a.l0, a.l1, a.l2, a.l3]
abbrev oS4 (ty : TypeId) : Out Fr := outSlR Fr ty 4 (fun _ => rfl)
abbrev iS4 : Inp Fr := inpSlR Fr 4 (fun _ => rfl)
abbrev aS4 : Arg Fr := argSlR Fr
abbrev rS4 (ty : TypeId) : Res Fr := resSlR Fr ty 4 (fun _ => rfl)
theorem refR_run : endT (En []) (oS4 22) 100 Try.f54 (flat (codeOf Try.f54)) (startSt Try.f54 [] []) = .leaf (some (rLimbs, .t)) := by kernel_rfl
theorem refR_ok : CallOk Try.prog 54 (K0 (rS4 22) rLimbs) :=
  G0 (E := En []) Try.func54 (c := codeOf Try.f54) (by kernel_rfl) (bodied Try.func54 (by kernel_rfl) (by kernel_rfl)) (oS4 22) rLimbs (DoesL.ends (En_ok .nil) 100 refR_run ⟨.t, rfl, trivial⟩)
theorem modulus4_ok : CallOk Try.prog 122 (K0 r4.res rLimbs) := P0 E0_ok Try.func122 (bodied Try.func122 (by kernel_rfl) (by kernel_rfl)) 100 r4 rLimbs (T := .leaf (some rLimbs)) (by kernel_rfl) rfl
theorem R4_run (m : Fr) : endT (En [(122, K0 r4.res m)]) (oS4 24) 100 Try.f74 (flat (codeOf Try.f74)) (startSt Try.f74 [] []) = .leaf (some (m, .t)) := by kernel_rfl
theorem R4_ok : CallOk Try.prog 74 (K0 (rS4 24) rLimbs) :=
  G0 (E := En [(122, K0 r4.res rLimbs)]) Try.func74 (c := codeOf Try.f74) (by kernel_rfl) (bodied Try.func74 (by kernel_rfl) (by kernel_rfl)) (oS4 24) rLimbs (DoesL.ends (En_ok (.cons modulus4_ok .nil)) 100 (R4_run rLimbs) ⟨.t, rfl, trivial⟩)
def below4F (a m : Fr) : Bool :=
  match a.l3 != m.l3 with
  | true => decide (a.l3 < m.l3)
  | false => match a.l2 != m.l2 with
    | true => decide (a.l2 < m.l2)
    | false => match a.l1 != m.l1 with
      | true => decide (a.l1 < m.l1)
      | false => match a.l0 != m.l0 with
        | true => decide (a.l0 < m.l0)
        | false => false
def below4T (a m : Fr) : Tree (Option (Bool × Pr)) :=
  .br (a.l3 != m.l3) (lfB (decide (a.l3 < m.l3))) (.br (a.l2 != m.l2) (lfB (decide (a.l2 < m.l2))) (.br (a.l1 != m.l1) (lfB (decide (a.l1 < m.l1))) (.br (a.l0 != m.l0) (lfB (decide (a.l0 < m.l0))) (lfB false))))
theorem below4_run (a m : Fr) : endT (En []) oB 100 Try.f53 (flat (codeOf Try.f53)) (startSt Try.f53 [iS4.av 0 a, iS4.av 1 m] (iS4.hes a ++ iS4.hes m)) = below4T a m := by kernel_rfl
theorem below4T_sat (a m : Fr) : (below4T a m).sat fun q => ∃ p, q = some (below4F a m, p) ∧ p.holds := by
  unfold below4F
  refine ⟨fun h => ?_, fun h => ?_⟩ <;> rw [h]
  · exact ⟨.t, rfl, trivial⟩
  refine ⟨fun h => ?_, fun h => ?_⟩ <;> rw [h]
  · exact ⟨.t, rfl, trivial⟩
  refine ⟨fun h => ?_, fun h => ?_⟩ <;> rw [h]
  · exact ⟨.t, rfl, trivial⟩
  refine ⟨fun h => ?_, fun h => ?_⟩ <;> rw [h]
  · exact ⟨.t, rfl, trivial⟩
  · exact ⟨.t, rfl, trivial⟩
theorem below4_ok : CallOk Try.prog 53 (K2 aS4 aS4 oB.res below4F) :=
  G2 (E := En []) Try.func53 (c := codeOf Try.f53) (by kernel_rfl) (bodied Try.func53 (by kernel_rfl) (by kernel_rfl)) iS4 iS4 oB below4F fun a m _ _ => DoesL.ends (En_ok .nil) 100 (below4_run a m) (below4T_sat a m)
def mayRF (a : Fr) : Bool := below4F a rLimbs
theorem mayR_run (bF : Fr → Fr → Bool) (m a : Fr) : plainRun (Ens [(53, K2 aS4 aS4 oB.res bF), (54, K0 (rS4 22) m)] [54]) kBool.rs 100 Try.f16 [v4 a] = .leaf (some (bF a m)) := by kernel_rfl
theorem mayR_ok : CallOk Try.prog 16 (Krb mayRF) := P1 (Ens_ok (.cons below4_ok (.cons refR_ok .nil))) Try.func16 (bodied Try.func16 (by kernel_rfl) (by kernel_rfl)) 100 (kRow Fr) kBool.rs mayRF (mayR_run below4F rLimbs) (fun _ => Tree.sat_leaf (by simp only [mayRF]))
def ofL4 (xs : List UInt64) : Fr := ⟨atF xs 0, atF xs 1, atF xs 2, atF xs 3⟩
abbrev oF4 : Out Fr := r4.out
theorem rfr_run (xs : List UInt64) : endT (En []) oF4 100 Try.f75 (flat (codeOf Try.f75)) (startSt Try.f75 [iL.av 0 xs] [inHE eU64 xs]) =
  (.vc (0 + xs.length ≤ xs.length)
    (.leaf (some (({ l0 := pickC (Nat.blt 0 xs.length) ((List.take xs.length (List.drop 0 xs)).getD 0 0) (UInt64.ofNat 0), l1 := pickC (Nat.blt 1 xs.length) ((List.take xs.length (List.drop 0 xs)).getD 1 0) (UInt64.ofNat 0), l2 := pickC (Nat.blt 2 xs.length) ((List.take xs.length (List.drop 0 xs)).getD 2 0) (UInt64.ofNat 0), l3 := pickC (Nat.blt 3 xs.length) ((List.take xs.length (List.drop 0 xs)).getD 3 0) (UInt64.ofNat 0) }, .t))))) := by kernel_rfl
theorem rfr_ok : CallOk Try.prog 75 (K1 aL oF4.res ofL4) :=
  G1 (E := En []) Try.func75 (c := codeOf Try.f75) (by kernel_rfl) (bodied Try.func75 (by kernel_rfl) (by kernel_rfl)) iL oF4 ofL4 fun xs hx => by
    refine DoesL.ends (En_ok .nil) 100 (rfr_run xs) ⟨by omega, fun _ => reads_t ?_⟩
    rw [pick_at, pick_at, pick_at, pick_at]
    rfl
def add4T (a b : Fr) : Fr × Bool :=
  let c0 := addC a.l0 b.l0 false
  let c1 := addC a.l1 b.l1 c0
  let c2 := addC a.l2 b.l2 c1
  (⟨addS a.l0 b.l0 false, addS a.l1 b.l1 c0, addS a.l2 b.l2 c1, addS a.l3 b.l3 c2⟩, addC a.l3 b.l3 c2)
def sub4T (a b : Fr) : Fr × Bool :=
  let c0 := subB a.l0 b.l0 false
  let c1 := subB a.l1 b.l1 c0
  let c2 := subB a.l2 b.l2 c1
  (⟨subS a.l0 b.l0 false, subS a.l1 b.l1 c0, subS a.l2 b.l2 c1, subS a.l3 b.l3 c2⟩, subB a.l3 b.l3 c2)
abbrev rS4u : Res Fr := rS4 22
abbrev oS4u : Out Fr := oS4 22
def four (a : Fr) : List UInt64 := [a.l0, a.l1, a.l2, a.l3]
def wrOk4 (a m : Fr) : Prop := 0 < (four a).length ∧ (four m).length ≤ (four a).length ∧ (four a).length < 4294967296
theorem wrOk4_ok (a m : Fr) : wrOk4 a m := ⟨Nat.lt_of_lt_of_le (by decide : 0 < 4) (Nat.le_refl 4), Nat.le_refl 4, (by decide : 4 < 4294967296)⟩
noncomputable abbrev plus4E (bF : Fr → Fr → Bool) : Env := En [(123, K3x addS addC), (53, K2 aS4 aS4 oB.res bF), (124, Ksub)]
theorem plus4E_ok : EnvOk (plus4E below4F) := En_ok (.cons add64_ok (.cons below4_ok (.cons rsub_ok .nil)))
def lfR (a : Fr) : Tree (Option (Fr × Pr)) := .leaf (some (a, .t))
def plus4T (bF : Fr → Fr → Bool) (a b m : Fr) : Tree (Option (Fr × Pr)) :=
  .br (b2u (add4T a b).2 == 1) (.vc (wrOk4 (add4T a b).1 m) (lfR (sub4T (add4T a b).1 m).1)) (.br (!(bF (add4T a b).1 m)) (.vc (wrOk4 (add4T a b).1 m) (lfR (sub4T (add4T a b).1 m).1)) (lfR (add4T a b).1))
theorem plus4_run (bF : Fr → Fr → Bool) (a b m : Fr) : endT (plus4E bF) oS4u 300 Try.f76 (flat (codeOf Try.f76)) (startSt Try.f76 [iS4.av 0 a, iS4.av 1 b, iS4.av 2 m] (iS4.hes a ++ iS4.hes b ++ iS4.hes m)) = plus4T bF a b m := by kernel_rfl
def plus4F (a b m : Fr) : Fr := match b2u (add4T a b).2 == 1 with
  | true => (sub4T (add4T a b).1 m).1
  | false => match !(below4F (add4T a b).1 m) with
    | true => (sub4T (add4T a b).1 m).1
    | false => (add4T a b).1
theorem plus4T_sat (a b m : Fr) : (plus4T below4F a b m).sat fun q => ∃ p, q = some (plus4F a b m, p) ∧ p.holds := by
  refine ⟨fun h => ⟨wrOk4_ok _ _, fun _ => ?_⟩, fun h => ⟨fun h2 => ⟨wrOk4_ok _ _, fun _ => ?_⟩, fun h2 => ?_⟩⟩
  · exact reads_t (by unfold plus4F; rw [h])
  · exact reads_t (by unfold plus4F; rw [h, h2])
  · exact reads_t (by unfold plus4F; rw [h, h2])
theorem plus4_ok : CallOk Try.prog 76 (K3 aS4 aS4 aS4 rS4u plus4F) :=
  G3 (E := plus4E below4F) Try.func76 (c := codeOf Try.f76) (by kernel_rfl) (bodied Try.func76 (by kernel_rfl) (by kernel_rfl)) iS4 iS4 iS4 oS4u plus4F fun a b m _ _ _ => DoesL.ends plus4E_ok 300 (plus4_run below4F a b m) (plus4T_sat a b m)
abbrev K3s4 (F : Fr → Fr → Fr → Fr) : Contract := K3 aS4 aS4 aS4 rS4u F
abbrev Kfr (F : List UInt64 → Fr) : Contract := K1 aL oF4.res F
theorem addR_run (pF : Fr → Fr → Fr → Fr) (m a b : Fr) : plainRun (Ens [(76, K3s4 pF), (54, K0 rS4u m), (75, Kfr ofL4)] [76, 54]) r4 100 Try.f31 [v4 a, v4 b] = .leaf (some (pF a b m)) := by kernel_rfl
def addRF (a b : Fr) : Fr := plus4F a b rLimbs
theorem addR_ok : CallOk Try.prog 31 (Kr2 addRF) := P2 (Ens_ok (.cons plus4_ok (.cons refR_ok (.cons rfr_ok .nil)))) Try.func31 (bodied Try.func31 (by kernel_rfl) (by kernel_rfl)) 100 (kRow Fr) (kRow Fr) r4 addRF (addR_run plus4F rLimbs) (fun _ _ => Tree.sat_leaf (by simp only [addRF]))
structure L5 where
  t0 : UInt64
  t1 : UInt64
  t2 : UInt64
  t3 : UInt64
  t4 : UInt64
def L5.low (t : L5) : Fr := ⟨t.t0, t.t1, t.t2, t.t3⟩
def L5.cs (t : L5) : List Cell := [.u64 t.t0, .u64 t.t1, .u64 t.t2, .u64 t.t3, .u64 t.t4]
def mont4B (m : Fr) (inv : UInt64) (t0 t1 t2 t3 top : UInt64) (more : Bool) : L5 :=
  let x := t0 * inv
  let d0 := mulHi x m.l0 + b2u (addC t0 (x * m.l0) false)
  let d1 := rmH x m.l1 t1 d0
  let d2 := rmH x m.l2 t2 d1
  let d3 := rmH x m.l3 t3 d2
  ⟨rmL x m.l1 t1 d0, rmL x m.l2 t2 d1, rmL x m.l3 t3 d2, addS top d3 false, b2u more + b2u (addC top d3 false)⟩
def mont4M (ai : UInt64) (b : Fr) (t : L5) : Bool :=
  let c0 := rmH ai b.l0 t.t0 0
  let c1 := rmH ai b.l1 t.t1 c0
  let c2 := rmH ai b.l2 t.t2 c1
  let c3 := rmH ai b.l3 t.t3 c2
  addC t.t4 c3 false
def mont4R (m : Fr) (inv : UInt64) (ai : UInt64) (b : Fr) (t : L5) : L5 :=
  let c0 := rmH ai b.l0 t.t0 0
  let c1 := rmH ai b.l1 t.t1 c0
  let c2 := rmH ai b.l2 t.t2 c1
  let c3 := rmH ai b.l3 t.t3 c2
  mont4B m inv (rmL ai b.l0 t.t0 0) (rmL ai b.l1 t.t1 c0) (rmL ai b.l2 t.t2 c1) (rmL ai b.l3 t.t3 c2) (addS t.t4 c3 false) (addC t.t4 c3 false)
noncomputable abbrev mont4E (bF : Fr → Fr → Bool) : Env := En [(125, K2 kU64.arg kU64.arg (kU64.rs2 kU64).res fun x y => (mulHi x y, x * y)), (123, K3x addS addC), (53, K2 aS4 aS4 oB.res bF), (124, Ksub)]
theorem mont4E_ok : EnvOk (mont4E below4F) := En_ok (.cons mul64_ok (.cons add64_ok (.cons below4_ok (.cons rsub_ok .nil))))
def mSt4 (a b m : Fr) (inv : UInt64) (k : Nat) (t : List Cell) : St :=
  mkSt 222 [(0, slR 0 4), (1, slR 1 4), (2, slR 2 4), (7, litV 4), (8, vU inv), (10, slR 3 6), (11, litV k)] [.live ⟨false, 0, 1, .row (Row.cs a), false⟩, .live ⟨false, 0, 1, .row (Row.cs b), false⟩, .live ⟨false, 0, 1, .row (Row.cs m), false⟩, .live ⟨true, 22, 1, .row t, false⟩]
def six4 (t : L5) (h : Bool) : List Cell := t.cs ++ [.bit h]
set_option maxRecDepth 100000
theorem mont4_start (bF : Fr → Fr → Bool) (a b m : Fr) : stageT (mont4E bF) 300 (montC.take 8) (startSt Try.f77 [iS4.av 0 a, iS4.av 1 b, iS4.av 2 m] (iS4.hes a ++ iS4.hes b ++ iS4.hes m)) [0, 1, 2, 7, 8, 10, 11] [0, 1, 2, 3] = .leaf (mSt4 a b m (montInv m.l0) 0 (zeros 6)) := by kernel_rfl
theorem mont4_round0 (bF : Fr → Fr → Bool) (a b m : Fr) (inv : UInt64) : roundT (mont4E bF) 300 montO (mSt4 a b m inv 0 (zeros 6)) mCut = .leaf (.normal, mSt4 a b m inv 1 (six4 (mont4R m inv a.l0 b ⟨0, 0, 0, 0, 0⟩) (mont4M a.l0 b ⟨0, 0, 0, 0, 0⟩))) := by kernel_rfl
theorem mont4_round1 (bF : Fr → Fr → Bool) (a b m : Fr) (inv : UInt64) (t : L5) (h : Bool) : roundT (mont4E bF) 300 montO (mSt4 a b m inv 1 (six4 t h)) mCut = .leaf (.normal, mSt4 a b m inv 2 (six4 (mont4R m inv a.l1 b t) (mont4M a.l1 b t))) := by kernel_rfl
theorem mont4_round2 (bF : Fr → Fr → Bool) (a b m : Fr) (inv : UInt64) (t : L5) (h : Bool) : roundT (mont4E bF) 300 montO (mSt4 a b m inv 2 (six4 t h)) mCut = .leaf (.normal, mSt4 a b m inv 3 (six4 (mont4R m inv a.l2 b t) (mont4M a.l2 b t))) := by kernel_rfl
theorem mont4_round3 (bF : Fr → Fr → Bool) (a b m : Fr) (inv : UInt64) (t : L5) (h : Bool) : roundT (mont4E bF) 300 montO (mSt4 a b m inv 3 (six4 t h)) mCut = .leaf (.normal, mSt4 a b m inv 4 (six4 (mont4R m inv a.l3 b t) (mont4M a.l3 b t))) := by kernel_rfl
theorem mont4_out (bF : Fr → Fr → Bool) (a b m : Fr) (inv : UInt64) (t : L5) (h : Bool) : roundT (mont4E bF) 300 montO (mSt4 a b m inv 4 (six4 t h)) mCut = .leaf (.exit 2, mSt4 a b m inv 4 (six4 t h)) := by kernel_rfl
def wrOk6 (m : Fr) : Prop := 0 < 6 ∧ 4 ≤ 6 ∧ 6 < 4294967296
def mont4T (bF : Fr → Fr → Bool) (m : Fr) (t : L5) : Tree (Option (Fr × Pr)) :=
  .br (t.t4 != 0) (.vc (wrOk6 m) (lfR (sub4T t.low m).1)) (.br (!(bF t.low m)) (.vc (wrOk6 m) (lfR (sub4T t.low m).1)) (lfR t.low))
theorem mont4_end (bF : Fr → Fr → Bool) (a b m : Fr) (inv : UInt64) (t : L5) (h : Bool) : endT (mont4E bF) oS4u 300 Try.f77 (montC.drop 9) (mSt4 a b m inv 4 (six4 t h)) = mont4T bF m t := by kernel_rfl
def mont4X (m : Fr) (t : L5) : Fr := match t.t4 != 0 with
  | true => (sub4T t.low m).1
  | false => match !(below4F t.low m) with
    | true => (sub4T t.low m).1
    | false => t.low
def mont4_1 (a b m : Fr) : L5 := mont4R m (montInv m.l0) a.l0 b ⟨0, 0, 0, 0, 0⟩
def mont4_2 (a b m : Fr) : L5 := mont4R m (montInv m.l0) a.l1 b (mont4_1 a b m)
def mont4_3 (a b m : Fr) : L5 := mont4R m (montInv m.l0) a.l2 b (mont4_2 a b m)
def mont4_4 (a b m : Fr) : L5 := mont4R m (montInv m.l0) a.l3 b (mont4_3 a b m)
def mont4F (a b m : Fr) : Fr := mont4X m (mont4_4 a b m)
theorem mont4T_sat (m : Fr) (t : L5) : (mont4T below4F m t).sat fun q => ∃ p, q = some (mont4X m t, p) ∧ p.holds := by
  have w : wrOk6 m := ⟨by decide, by decide, by decide⟩
  refine ⟨fun h => ⟨w, fun _ => ?_⟩, fun h => ⟨fun h2 => ⟨w, fun _ => ?_⟩, fun h2 => ?_⟩⟩
  · exact reads_t (by unfold mont4X; rw [h])
  · exact reads_t (by unfold mont4X; rw [h, h2])
  · exact reads_t (by unfold mont4X; rw [h, h2])
def mAt4 (a b m : Fr) (q : Fin 5 × Bool) : St :=
  match q.1 with
  | 0 => mSt4 a b m (montInv m.l0) 0 (zeros 6)
  | 1 => mSt4 a b m (montInv m.l0) 1 (six4 (mont4_1 a b m) q.2)
  | 2 => mSt4 a b m (montInv m.l0) 2 (six4 (mont4_2 a b m) q.2)
  | 3 => mSt4 a b m (montInv m.l0) 3 (six4 (mont4_3 a b m) q.2)
  | 4 => mSt4 a b m (montInv m.l0) 4 (six4 (mont4_4 a b m) q.2)
theorem mont4_ok : CallOk Try.prog 77 (K3 aS4 aS4 aS4 rS4u mont4F) :=
  G3 (E := mont4E below4F) Try.func77 (c := codeOf Try.f77) (by kernel_rfl) (bodied Try.func77 (by kernel_rfl) (by kernel_rfl)) iS4 iS4 iS4 oS4u mont4F fun a b m _ _ _ => by
    have hE := mont4E_ok
    refine DoesL.stageTo hE 300 8 _ _ (mont4_start below4F a b m) ?_
    refine DoesL.blockLoop mont_split (mAt4 a b m) (fun q => 4 - q.1.1) (0, false) fun q => ?_
    obtain ⟨k, h⟩ := q
    match k with
    | 0 => exact Does.round hE 300 mCut (mont4_round0 below4F a b m _) ⟨(1, mont4M a.l0 b ⟨0, 0, 0, 0, 0⟩), by show 4 - 1 < 4 - 0; decide, by simp only [mAt4, mont4_1]⟩
    | 1 => exact Does.round hE 300 mCut (mont4_round1 below4F a b m _ (mont4_1 a b m) h) ⟨(2, mont4M a.l1 b (mont4_1 a b m)), by show 4 - 2 < 4 - 1; decide, by simp only [mAt4, mont4_2]⟩
    | 2 => exact Does.round hE 300 mCut (mont4_round2 below4F a b m _ (mont4_2 a b m) h) ⟨(3, mont4M a.l2 b (mont4_2 a b m)), by show 4 - 3 < 4 - 2; decide, by simp only [mAt4, mont4_3]⟩
    | 3 => exact Does.round hE 300 mCut (mont4_round3 below4F a b m _ (mont4_3 a b m) h) ⟨(4, mont4M a.l3 b (mont4_3 a b m)), by show 4 - 4 < 4 - 3; decide, by simp only [mAt4, mont4_4]⟩
    | 4 => exact Does.round hE 300 mCut (mont4_out below4F a b m _ (mont4_4 a b m) h) ⟨rfl, DoesL.ends hE 300 (mont4_end below4F a b m _ (mont4_4 a b m) h) (mont4T_sat m (mont4_4 a b m))⟩
theorem mulR_run (pF : Fr → Fr → Fr → Fr) (m a b : Fr) : plainRun (Ens [(77, K3s4 pF), (54, K0 rS4u m), (75, Kfr ofL4)] [77, 54]) r4 100 Try.f32 [v4 a, v4 b] = .leaf (some (pF (pF a b m) sq4Limbs m)) := by kernel_rfl
def mulRF (a b : Fr) : Fr := mont4F (mont4F a b rLimbs) sq4Limbs rLimbs
theorem mulR_ok : CallOk Try.prog 32 (Kr2 mulRF) := P2 (Ens_ok (.cons mont4_ok (.cons refR_ok (.cons rfr_ok .nil)))) Try.func32 (bodied Try.func32 (by kernel_rfl) (by kernel_rfl)) 100 (kRow Fr) (kRow Fr) r4 mulRF (mulR_run mont4F rLimbs) (fun _ _ => Tree.sat_leaf (by simp only [mulRF]))
end Go.Proofs.Ytchlamfdofpolaa

set_option linter.unusedSimpArgs false
set_option linter.unusedVariables false
namespace Go.Proofs.Ytchlamfdofpolaa
open Go.RowKit
def infG1 : Pg1 := ⟨zeroFp, zeroFp, true⟩
def infG2 : Pg2 := ⟨zeroFp2, zeroFp2, true⟩
def pg2Eq (a b : Pg2) : Bool := fp2Eq a.x b.x && (fp2Eq a.y b.y && ((a.inf == b.inf) && true))
theorem pg2Eq_iff (a b : Pg2) : pg2Eq a b = true ↔ a = b := by
  unfold pg2Eq
  rw [Bool.and_true, Bool.and_eq_true, Bool.and_eq_true, fp2Eq_iff, fp2Eq_iff, beq_iff_eq]
  cases a; cases b
  simp
def zeroSp : Sp1 := ⟨zeroFp, zeroFp, zeroFp⟩
abbrev kg2 : Kd Pg2 := kRow Pg2
end Go.Proofs.Ytchlamfdofpolaa

set_option linter.unusedSimpArgs false
set_option linter.unusedVariables false
namespace Go.Proofs.Ytchlamfdofpolaa
open Go.RowKit
def oneG2_G  : Pg2 := ({ x := { c0 := { l0 := UInt64.ofNat 15312334153293348280, l1 := UInt64.ofNat 841050694974028783, l2 := UInt64.ofNat 12993178926126977399, l3 := UInt64.ofNat 14331714969349929730, l4 := UInt64.ofNat 2740446039084699729, l5 := UInt64.ofNat 165123225776229009 }, c1 := { l0 := UInt64.ofNat 16549740192668593022, l1 := UInt64.ofNat 3696594454104530263, l2 := UInt64.ofNat 13103893525273989193, l3 := UInt64.ofNat 6443473286224459290, l4 := UInt64.ofNat 9055845637167730533, l5 := UInt64.ofNat 1432192374203850592 } }, y := { c0 := { l0 := UInt64.ofNat 16254428414758889473, l1 := UInt64.ofNat 10536956157198377609, l2 := UInt64.ofNat 7873024875724591404, l3 := UInt64.ofNat 12537348094477325223, l4 := UInt64.ofNat 10144865889576432922, l5 := UInt64.ofNat 929383263523139089 }, c1 := { l0 := UInt64.ofNat 12297368366147926462, l1 := UInt64.ofNat 4555124010822409633, l2 := UInt64.ofNat 2771000935339432363, l3 := UInt64.ofNat 14645187562128761775, l4 := UInt64.ofNat 3651525051980876697, l5 := UInt64.ofNat 434250606344352972 } }, inf := false })
def oneG2_T  : Tree (Option (Pg2)) :=
  (.leaf (some ({ x := { c0 := { l0 := UInt64.ofNat 15312334153293348280, l1 := UInt64.ofNat 841050694974028783, l2 := UInt64.ofNat 12993178926126977399, l3 := UInt64.ofNat 14331714969349929730, l4 := UInt64.ofNat 2740446039084699729, l5 := UInt64.ofNat 165123225776229009 }, c1 := { l0 := UInt64.ofNat 16549740192668593022, l1 := UInt64.ofNat 3696594454104530263, l2 := UInt64.ofNat 13103893525273989193, l3 := UInt64.ofNat 6443473286224459290, l4 := UInt64.ofNat 9055845637167730533, l5 := UInt64.ofNat 1432192374203850592 } }, y := { c0 := { l0 := UInt64.ofNat 16254428414758889473, l1 := UInt64.ofNat 10536956157198377609, l2 := UInt64.ofNat 7873024875724591404, l3 := UInt64.ofNat 12537348094477325223, l4 := UInt64.ofNat 10144865889576432922, l5 := UInt64.ofNat 929383263523139089 }, c1 := { l0 := UInt64.ofNat 12297368366147926462, l1 := UInt64.ofNat 4555124010822409633, l2 := UInt64.ofNat 2771000935339432363, l3 := UInt64.ofNat 14645187562128761775, l4 := UInt64.ofNat 3651525051980876697, l5 := UInt64.ofNat 434250606344352972 } }, inf := false })))
theorem oneG2_run  : plainRun (En []) (kRow Pg2).rs 300 Try.f49 [] = oneG2_T  := by kernel_rfl
theorem oneG2_sat  : (oneG2_T ).sat fun q => q = some (oneG2_G ) := (show some _ = some _ from rfl)
def oneG2  : Pg2 := oneG2_G
theorem oneG2_ok : CallOk Try.prog 49 (K0 (kRow Pg2).rs.res oneG2) :=
  P0 (En_ok .nil) Try.func49 (bodied Try.func49 (by kernel_rfl) (by kernel_rfl)) 300  (kRow Pg2).rs oneG2 (oneG2_run ) (oneG2_sat )
def rhsG2_G (f0 : Fp2 → Fp2 → Fp2) (f1 : Fp2 → Fp2 → Fp2) (x : Fp2) : Fp2 := (f0 (f1 (f1 x x) x) { c0 := { l0 := UInt64.ofNat 4, l1 := UInt64.ofNat 0, l2 := UInt64.ofNat 0, l3 := UInt64.ofNat 0, l4 := UInt64.ofNat 0, l5 := UInt64.ofNat 0 }, c1 := { l0 := UInt64.ofNat 4, l1 := UInt64.ofNat 0, l2 := UInt64.ofNat 0, l3 := UInt64.ofNat 0, l4 := UInt64.ofNat 0, l5 := UInt64.ofNat 0 } })
def rhsG2_T (f0 : Fp2 → Fp2 → Fp2) (f1 : Fp2 → Fp2 → Fp2) (x : Fp2) : Tree (Option (Fp2)) :=
  (.leaf (some (f0 (f1 (f1 x x) x) { c0 := { l0 := UInt64.ofNat 4, l1 := UInt64.ofNat 0, l2 := UInt64.ofNat 0, l3 := UInt64.ofNat 0, l4 := UInt64.ofNat 0, l5 := UInt64.ofNat 0 }, c1 := { l0 := UInt64.ofNat 4, l1 := UInt64.ofNat 0, l2 := UInt64.ofNat 0, l3 := UInt64.ofNat 0, l4 := UInt64.ofNat 0, l5 := UInt64.ofNat 0 } })))
theorem rhsG2_run (f0 : Fp2 → Fp2 → Fp2) (f1 : Fp2 → Fp2 → Fp2) (x : Fp2) : plainRun (En [(131, K2 (kRow Fp2).arg (kRow Fp2).arg (kRow Fp2).rs.res f0), (90, K2 (kRow Fp2).arg (kRow Fp2).arg (kRow Fp2).rs.res f1)]) (kRow Fp2).rs 300 Try.f91 [.one ((kRow Fp2).av x)] = rhsG2_T f0 f1 x := by kernel_rfl
theorem rhsG2_sat (f0 : Fp2 → Fp2 → Fp2) (f1 : Fp2 → Fp2 → Fp2) (x : Fp2) : (rhsG2_T f0 f1 x).sat fun q => q = some (rhsG2_G f0 f1 x) := (show some _ = some _ from rfl)
def rhsG2 (x : Fp2) : Fp2 := rhsG2_G addF2 mulF2 x
theorem rhsG2_ok : CallOk Try.prog 91 (K1 (kRow Fp2).arg (kRow Fp2).rs.res rhsG2) :=
  P1 (En_ok (.cons addF2_ok (.cons mulF2_ok .nil))) Try.func91 (bodied Try.func91 (by kernel_rfl) (by kernel_rfl)) 300 (kRow Fp2) (kRow Fp2).rs rhsG2 (rhsG2_run addF2 mulF2) (rhsG2_sat addF2 mulF2)
def onG2_G (f0 : Fp2 → Bool) (f1 : Fp2 → Fp2 → Fp2) (f2 : Fp2 → Fp2) (p : Pg2) : Bool := (match (p.inf) with | true => ((pg2Eq (p) (infG2))) | false => (match (f0 p.x) with | true => (match (f0 p.y) with | true => ((fp2Eq (f1 p.y p.y) (f2 p.x))) | false => ((false))) | false => ((false))))
def onG2_T (f0 : Fp2 → Bool) (f1 : Fp2 → Fp2 → Fp2) (f2 : Fp2 → Fp2) (p : Pg2) : Tree (Option (Bool)) :=
  (.br (p.inf)
    (.leaf (some ((pg2Eq (p) (infG2)))))
    (.br (f0 p.x)
      (.br (f0 p.y)
        (.leaf (some ((fp2Eq (f1 p.y p.y) (f2 p.x)))))
        (.leaf (some ((false)))))
      (.leaf (some ((false))))))
theorem onG2_run (f0 : Fp2 → Bool) (f1 : Fp2 → Fp2 → Fp2) (f2 : Fp2 → Fp2) (p : Pg2) : plainRun (En [(89, K1 (kRow Fp2).arg kBool.rs.res f0), (90, K2 (kRow Fp2).arg (kRow Fp2).arg (kRow Fp2).rs.res f1), (91, K1 (kRow Fp2).arg (kRow Fp2).rs.res f2)]) kBool.rs 300 Try.f45 [.one ((kRow Pg2).av p)] = onG2_T f0 f1 f2 p := by kernel_rfl
theorem onG2_sat (f0 : Fp2 → Bool) (f1 : Fp2 → Fp2 → Fp2) (f2 : Fp2 → Fp2) (p : Pg2) : (onG2_T f0 f1 f2 p).sat fun q => q = some (onG2_G f0 f1 f2 p) := ⟨fun h0 => (show some _ = some _ from congrArg some (by unfold onG2_G; rw [h0])), fun h0 => ⟨fun h1 => ⟨fun h2 => (show some _ = some _ from congrArg some (by unfold onG2_G; rw [h0, h1, h2])), fun h2 => (show some _ = some _ from congrArg some (by unfold onG2_G; rw [h0, h1, h2]))⟩, fun h1 => (show some _ = some _ from congrArg some (by unfold onG2_G; rw [h0, h1]))⟩⟩
def onG2 (p : Pg2) : Bool := onG2_G mayF2 mulF2 rhsG2 p
theorem onG2_ok : CallOk Try.prog 45 (K1 (kRow Pg2).arg kBool.rs.res onG2) :=
  P1 (En_ok (.cons mayF2_ok (.cons mulF2_ok (.cons rhsG2_ok .nil)))) Try.func45 (bodied Try.func45 (by kernel_rfl) (by kernel_rfl)) 300 (kRow Pg2) kBool.rs onG2 (onG2_run mayF2 mulF2 rhsG2) (onG2_sat mayF2 mulF2 rhsG2)
def liftG2_G (f0 : Fp2 → Fp2) (p : Pg2) : Fp6 := (match (p.inf) with | true => (zeroFp6) | false => ({ c0 := f0 p.x, c1 := f0 p.y, c2 := f0 oneFp2 }))
def liftG2_T (f0 : Fp2 → Fp2) (p : Pg2) : Tree (Option (Fp6)) :=
  (.br (p.inf)
    (.leaf (some (zeroFp6)))
    (.leaf (some ({ c0 := f0 p.x, c1 := f0 p.y, c2 := f0 oneFp2 }))))
theorem liftG2_run (f0 : Fp2 → Fp2) (p : Pg2) : plainRun (En [(132, K1 (kRow Fp2).arg (kRow Fp2).rs.res f0)]) (kRow Fp6).rs 300 Try.f83 [.one ((kRow Pg2).av p)] = liftG2_T f0 p := by kernel_rfl
theorem liftG2_sat (f0 : Fp2 → Fp2) (p : Pg2) : (liftG2_T f0 p).sat fun q => q = some (liftG2_G f0 p) := ⟨fun h0 => (show some _ = some _ from congrArg some (by unfold liftG2_G; rw [h0])), fun h0 => (show some _ = some _ from congrArg some (by unfold liftG2_G; rw [h0]))⟩
def liftG2 (p : Pg2) : Fp6 := liftG2_G wholeF2 p
theorem liftG2_ok : CallOk Try.prog 83 (K1 (kRow Pg2).arg (kRow Fp6).rs.res liftG2) :=
  P1 (En_ok (.cons wholeF2_ok .nil)) Try.func83 (bodied Try.func83 (by kernel_rfl) (by kernel_rfl)) 300 (kRow Pg2) (kRow Fp6).rs liftG2 (liftG2_run wholeF2) (liftG2_sat wholeF2)
def zeroG2_G (a : Fp2) : Bool := ((fp2Eq (a) (zeroFp2)))
def zeroG2_T (a : Fp2) : Tree (Option (Bool)) :=
  (.leaf (some ((fp2Eq (a) (zeroFp2)))))
theorem zeroG2_run (a : Fp2) : plainRun (En []) kBool.rs 300 Try.f97 [.one ((kRow Fp2).av a)] = zeroG2_T a := by kernel_rfl
theorem zeroG2_sat (a : Fp2) : (zeroG2_T a).sat fun q => q = some (zeroG2_G a) := (show some _ = some _ from rfl)
def zeroG2 (a : Fp2) : Bool := zeroG2_G  a
theorem zeroG2_ok : CallOk Try.prog 97 (K1 (kRow Fp2).arg kBool.rs.res zeroG2) :=
  P1 (En_ok .nil) Try.func97 (bodied Try.func97 (by kernel_rfl) (by kernel_rfl)) 300 (kRow Fp2) kBool.rs zeroG2 (zeroG2_run ) (zeroG2_sat )
def laysG2_G (f0 : Fp2 → Fp2 × Int) (f1 : Fp2 → Fp2) (f2 : Fp2 → Fp2 → Fp2) (s : Fp6) : Pg2 := (match ((f0 (f1 s.c2)).snd != 0) with | true => (infG2) | false => ({ x := f2 (f1 s.c0) (f2 (f0 (f1 s.c2)).fst (f0 (f1 s.c2)).fst), y := f2 (f1 s.c1) (f2 (f2 (f0 (f1 s.c2)).fst (f0 (f1 s.c2)).fst) (f0 (f1 s.c2)).fst), inf := false }))
def laysG2_T (f0 : Fp2 → Fp2 × Int) (f1 : Fp2 → Fp2) (f2 : Fp2 → Fp2 → Fp2) (s : Fp6) : Tree (Option (Pg2)) :=
  (.br ((f0 (f1 s.c2)).snd != 0)
    (.leaf (some (infG2)))
    (.leaf (some ({ x := f2 (f1 s.c0) (f2 (f0 (f1 s.c2)).fst (f0 (f1 s.c2)).fst), y := f2 (f1 s.c1) (f2 (f2 (f0 (f1 s.c2)).fst (f0 (f1 s.c2)).fst) (f0 (f1 s.c2)).fst), inf := false }))))
theorem laysG2_run (f0 : Fp2 → Fp2 × Int) (f1 : Fp2 → Fp2) (f2 : Fp2 → Fp2 → Fp2) (s : Fp6) : plainRun (En [(127, K1 (kRow Fp2).arg ((kRow Fp2).rs2 kInt).res f0), (128, K1 (kRow Fp2).arg (kRow Fp2).rs.res f1), (90, K2 (kRow Fp2).arg (kRow Fp2).arg (kRow Fp2).rs.res f2)]) (kRow Pg2).rs 300 Try.f81 [.one ((kRow Fp6).av s)] = laysG2_T f0 f1 f2 s := by kernel_rfl
theorem laysG2_sat (f0 : Fp2 → Fp2 × Int) (f1 : Fp2 → Fp2) (f2 : Fp2 → Fp2 → Fp2) (s : Fp6) : (laysG2_T f0 f1 f2 s).sat fun q => q = some (laysG2_G f0 f1 f2 s) := ⟨fun h0 => (show some _ = some _ from congrArg some (by unfold laysG2_G; rw [h0])), fun h0 => (show some _ = some _ from congrArg some (by unfold laysG2_G; rw [h0]))⟩
def laysG2 (s : Fp6) : Pg2 := laysG2_G invF2 lowF2 mulF2 s
theorem laysG2_ok : CallOk Try.prog 81 (K1 (kRow Fp6).arg (kRow Pg2).rs.res laysG2) :=
  P1 (En_ok (.cons invF2_ok (.cons lowF2_ok (.cons mulF2_ok .nil)))) Try.func81 (bodied Try.func81 (by kernel_rfl) (by kernel_rfl)) 300 (kRow Fp6) (kRow Pg2).rs laysG2 (laysG2_run invF2 lowF2 mulF2) (laysG2_sat invF2 lowF2 mulF2)
def twiceG2_G (f0 : Fp2 → Fp2 → Fp2) (f1 : Fp2 → Fp2 → Fp2) (f2 : Fp2 → Fp2 → Fp2) (s : Fp6) : Fp6 := ({ c0 := f2 (f0 (f1 (f1 (f0 s.c0 s.c0) (f0 s.c0 s.c0)) (f0 s.c0 s.c0)) (f1 (f1 (f0 s.c0 s.c0) (f0 s.c0 s.c0)) (f0 s.c0 s.c0))) (f1 (f1 (f1 (f0 s.c0 (f0 s.c1 s.c1)) (f0 s.c0 (f0 s.c1 s.c1))) (f1 (f0 s.c0 (f0 s.c1 s.c1)) (f0 s.c0 (f0 s.c1 s.c1)))) (f1 (f1 (f0 s.c0 (f0 s.c1 s.c1)) (f0 s.c0 (f0 s.c1 s.c1))) (f1 (f0 s.c0 (f0 s.c1 s.c1)) (f0 s.c0 (f0 s.c1 s.c1))))), c1 := f2 (f0 (f1 (f1 (f0 s.c0 s.c0) (f0 s.c0 s.c0)) (f0 s.c0 s.c0)) (f2 (f1 (f1 (f0 s.c0 (f0 s.c1 s.c1)) (f0 s.c0 (f0 s.c1 s.c1))) (f1 (f0 s.c0 (f0 s.c1 s.c1)) (f0 s.c0 (f0 s.c1 s.c1)))) (f2 (f0 (f1 (f1 (f0 s.c0 s.c0) (f0 s.c0 s.c0)) (f0 s.c0 s.c0)) (f1 (f1 (f0 s.c0 s.c0) (f0 s.c0 s.c0)) (f0 s.c0 s.c0))) (f1 (f1 (f1 (f0 s.c0 (f0 s.c1 s.c1)) (f0 s.c0 (f0 s.c1 s.c1))) (f1 (f0 s.c0 (f0 s.c1 s.c1)) (f0 s.c0 (f0 s.c1 s.c1)))) (f1 (f1 (f0 s.c0 (f0 s.c1 s.c1)) (f0 s.c0 (f0 s.c1 s.c1))) (f1 (f0 s.c0 (f0 s.c1 s.c1)) (f0 s.c0 (f0 s.c1 s.c1)))))))) (f1 (f1 (f1 (f0 (f0 s.c1 s.c1) (f0 s.c1 s.c1)) (f0 (f0 s.c1 s.c1) (f0 s.c1 s.c1))) (f1 (f0 (f0 s.c1 s.c1) (f0 s.c1 s.c1)) (f0 (f0 s.c1 s.c1) (f0 s.c1 s.c1)))) (f1 (f1 (f0 (f0 s.c1 s.c1) (f0 s.c1 s.c1)) (f0 (f0 s.c1 s.c1) (f0 s.c1 s.c1))) (f1 (f0 (f0 s.c1 s.c1) (f0 s.c1 s.c1)) (f0 (f0 s.c1 s.c1) (f0 s.c1 s.c1))))), c2 := f1 (f0 s.c1 s.c2) (f0 s.c1 s.c2) })
def twiceG2_T (f0 : Fp2 → Fp2 → Fp2) (f1 : Fp2 → Fp2 → Fp2) (f2 : Fp2 → Fp2 → Fp2) (s : Fp6) : Tree (Option (Fp6)) :=
  (.leaf (some ({ c0 := f2 (f0 (f1 (f1 (f0 s.c0 s.c0) (f0 s.c0 s.c0)) (f0 s.c0 s.c0)) (f1 (f1 (f0 s.c0 s.c0) (f0 s.c0 s.c0)) (f0 s.c0 s.c0))) (f1 (f1 (f1 (f0 s.c0 (f0 s.c1 s.c1)) (f0 s.c0 (f0 s.c1 s.c1))) (f1 (f0 s.c0 (f0 s.c1 s.c1)) (f0 s.c0 (f0 s.c1 s.c1)))) (f1 (f1 (f0 s.c0 (f0 s.c1 s.c1)) (f0 s.c0 (f0 s.c1 s.c1))) (f1 (f0 s.c0 (f0 s.c1 s.c1)) (f0 s.c0 (f0 s.c1 s.c1))))), c1 := f2 (f0 (f1 (f1 (f0 s.c0 s.c0) (f0 s.c0 s.c0)) (f0 s.c0 s.c0)) (f2 (f1 (f1 (f0 s.c0 (f0 s.c1 s.c1)) (f0 s.c0 (f0 s.c1 s.c1))) (f1 (f0 s.c0 (f0 s.c1 s.c1)) (f0 s.c0 (f0 s.c1 s.c1)))) (f2 (f0 (f1 (f1 (f0 s.c0 s.c0) (f0 s.c0 s.c0)) (f0 s.c0 s.c0)) (f1 (f1 (f0 s.c0 s.c0) (f0 s.c0 s.c0)) (f0 s.c0 s.c0))) (f1 (f1 (f1 (f0 s.c0 (f0 s.c1 s.c1)) (f0 s.c0 (f0 s.c1 s.c1))) (f1 (f0 s.c0 (f0 s.c1 s.c1)) (f0 s.c0 (f0 s.c1 s.c1)))) (f1 (f1 (f0 s.c0 (f0 s.c1 s.c1)) (f0 s.c0 (f0 s.c1 s.c1))) (f1 (f0 s.c0 (f0 s.c1 s.c1)) (f0 s.c0 (f0 s.c1 s.c1)))))))) (f1 (f1 (f1 (f0 (f0 s.c1 s.c1) (f0 s.c1 s.c1)) (f0 (f0 s.c1 s.c1) (f0 s.c1 s.c1))) (f1 (f0 (f0 s.c1 s.c1) (f0 s.c1 s.c1)) (f0 (f0 s.c1 s.c1) (f0 s.c1 s.c1)))) (f1 (f1 (f0 (f0 s.c1 s.c1) (f0 s.c1 s.c1)) (f0 (f0 s.c1 s.c1) (f0 s.c1 s.c1))) (f1 (f0 (f0 s.c1 s.c1) (f0 s.c1 s.c1)) (f0 (f0 s.c1 s.c1) (f0 s.c1 s.c1))))), c2 := f1 (f0 s.c1 s.c2) (f0 s.c1 s.c2) })))
theorem twiceG2_run (f0 : Fp2 → Fp2 → Fp2) (f1 : Fp2 → Fp2 → Fp2) (f2 : Fp2 → Fp2 → Fp2) (s : Fp6) : plainRun (En [(129, K2 (kRow Fp2).arg (kRow Fp2).arg (kRow Fp2).rs.res f0), (131, K2 (kRow Fp2).arg (kRow Fp2).arg (kRow Fp2).rs.res f1), (130, K2 (kRow Fp2).arg (kRow Fp2).arg (kRow Fp2).rs.res f2)]) (kRow Fp6).rs 300 Try.f99 [.one ((kRow Fp6).av s)] = twiceG2_T f0 f1 f2 s := by kernel_rfl
theorem twiceG2_sat (f0 : Fp2 → Fp2 → Fp2) (f1 : Fp2 → Fp2 → Fp2) (f2 : Fp2 → Fp2 → Fp2) (s : Fp6) : (twiceG2_T f0 f1 f2 s).sat fun q => q = some (twiceG2_G f0 f1 f2 s) := (show some _ = some _ from rfl)
def twiceG2 (s : Fp6) : Fp6 := twiceG2_G halfF2 addF2 subF2 s
theorem twiceG2_ok : CallOk Try.prog 99 (K1 (kRow Fp6).arg (kRow Fp6).rs.res twiceG2) :=
  P1 (En_ok (.cons halfF2_ok (.cons addF2_ok (.cons subF2_ok .nil)))) Try.func99 (bodied Try.func99 (by kernel_rfl) (by kernel_rfl)) 300 (kRow Fp6) (kRow Fp6).rs twiceG2 (twiceG2_run halfF2 addF2 subF2) (twiceG2_sat halfF2 addF2 subF2)
def plusG2_G (f0 : Fp2 → Bool) (f1 : Fp2 → Fp2 → Fp2) (f2 : Fp2 → Fp2 → Fp2) (f3 : Fp6 → Fp6) (f4 : Fp2 → Fp2 → Fp2) (s : Fp6) (t : Fp6) : Fp6 := (match (f0 s.c2) with | true => (t) | false => (match (f0 t.c2) with | true => (s) | false => (match (f0 (f2 (f1 t.c0 (f1 s.c2 s.c2)) (f1 s.c0 (f1 t.c2 t.c2)))) with | true => (match (f0 (f2 (f1 t.c1 (f1 (f1 s.c2 s.c2) s.c2)) (f1 s.c1 (f1 (f1 t.c2 t.c2) t.c2)))) with | true => (f3 s) | false => (zeroFp6)) | false => ({ c0 := f2 (f2 (f1 (f2 (f1 t.c1 (f1 (f1 s.c2 s.c2) s.c2)) (f1 s.c1 (f1 (f1 t.c2 t.c2) t.c2))) (f2 (f1 t.c1 (f1 (f1 s.c2 s.c2) s.c2)) (f1 s.c1 (f1 (f1 t.c2 t.c2) t.c2)))) (f1 (f1 (f2 (f1 t.c0 (f1 s.c2 s.c2)) (f1 s.c0 (f1 t.c2 t.c2))) (f2 (f1 t.c0 (f1 s.c2 s.c2)) (f1 s.c0 (f1 t.c2 t.c2)))) (f2 (f1 t.c0 (f1 s.c2 s.c2)) (f1 s.c0 (f1 t.c2 t.c2))))) (f4 (f1 (f1 s.c0 (f1 t.c2 t.c2)) (f1 (f2 (f1 t.c0 (f1 s.c2 s.c2)) (f1 s.c0 (f1 t.c2 t.c2))) (f2 (f1 t.c0 (f1 s.c2 s.c2)) (f1 s.c0 (f1 t.c2 t.c2))))) (f1 (f1 s.c0 (f1 t.c2 t.c2)) (f1 (f2 (f1 t.c0 (f1 s.c2 s.c2)) (f1 s.c0 (f1 t.c2 t.c2))) (f2 (f1 t.c0 (f1 s.c2 s.c2)) (f1 s.c0 (f1 t.c2 t.c2)))))), c1 := f2 (f1 (f2 (f1 t.c1 (f1 (f1 s.c2 s.c2) s.c2)) (f1 s.c1 (f1 (f1 t.c2 t.c2) t.c2))) (f2 (f1 (f1 s.c0 (f1 t.c2 t.c2)) (f1 (f2 (f1 t.c0 (f1 s.c2 s.c2)) (f1 s.c0 (f1 t.c2 t.c2))) (f2 (f1 t.c0 (f1 s.c2 s.c2)) (f1 s.c0 (f1 t.c2 t.c2))))) (f2 (f2 (f1 (f2 (f1 t.c1 (f1 (f1 s.c2 s.c2) s.c2)) (f1 s.c1 (f1 (f1 t.c2 t.c2) t.c2))) (f2 (f1 t.c1 (f1 (f1 s.c2 s.c2) s.c2)) (f1 s.c1 (f1 (f1 t.c2 t.c2) t.c2)))) (f1 (f1 (f2 (f1 t.c0 (f1 s.c2 s.c2)) (f1 s.c0 (f1 t.c2 t.c2))) (f2 (f1 t.c0 (f1 s.c2 s.c2)) (f1 s.c0 (f1 t.c2 t.c2)))) (f2 (f1 t.c0 (f1 s.c2 s.c2)) (f1 s.c0 (f1 t.c2 t.c2))))) (f4 (f1 (f1 s.c0 (f1 t.c2 t.c2)) (f1 (f2 (f1 t.c0 (f1 s.c2 s.c2)) (f1 s.c0 (f1 t.c2 t.c2))) (f2 (f1 t.c0 (f1 s.c2 s.c2)) (f1 s.c0 (f1 t.c2 t.c2))))) (f1 (f1 s.c0 (f1 t.c2 t.c2)) (f1 (f2 (f1 t.c0 (f1 s.c2 s.c2)) (f1 s.c0 (f1 t.c2 t.c2))) (f2 (f1 t.c0 (f1 s.c2 s.c2)) (f1 s.c0 (f1 t.c2 t.c2))))))))) (f1 (f1 s.c1 (f1 (f1 t.c2 t.c2) t.c2)) (f1 (f1 (f2 (f1 t.c0 (f1 s.c2 s.c2)) (f1 s.c0 (f1 t.c2 t.c2))) (f2 (f1 t.c0 (f1 s.c2 s.c2)) (f1 s.c0 (f1 t.c2 t.c2)))) (f2 (f1 t.c0 (f1 s.c2 s.c2)) (f1 s.c0 (f1 t.c2 t.c2))))), c2 := f1 (f1 s.c2 t.c2) (f2 (f1 t.c0 (f1 s.c2 s.c2)) (f1 s.c0 (f1 t.c2 t.c2))) }))))
def plusG2_T (f0 : Fp2 → Bool) (f1 : Fp2 → Fp2 → Fp2) (f2 : Fp2 → Fp2 → Fp2) (f3 : Fp6 → Fp6) (f4 : Fp2 → Fp2 → Fp2) (s : Fp6) (t : Fp6) : Tree (Option (Fp6)) :=
  (.br (f0 s.c2)
    (.leaf (some (t)))
    (.br (f0 t.c2)
      (.leaf (some (s)))
      (.br (f0 (f2 (f1 t.c0 (f1 s.c2 s.c2)) (f1 s.c0 (f1 t.c2 t.c2))))
        (.br (f0 (f2 (f1 t.c1 (f1 (f1 s.c2 s.c2) s.c2)) (f1 s.c1 (f1 (f1 t.c2 t.c2) t.c2))))
          (.leaf (some (f3 s)))
          (.br (f0 (f2 (f1 t.c0 (f1 s.c2 s.c2)) (f1 s.c0 (f1 t.c2 t.c2))))
            (.leaf (some (zeroFp6)))
            (.leaf (some ({ c0 := f2 (f2 (f1 (f2 (f1 t.c1 (f1 (f1 s.c2 s.c2) s.c2)) (f1 s.c1 (f1 (f1 t.c2 t.c2) t.c2))) (f2 (f1 t.c1 (f1 (f1 s.c2 s.c2) s.c2)) (f1 s.c1 (f1 (f1 t.c2 t.c2) t.c2)))) (f1 (f1 (f2 (f1 t.c0 (f1 s.c2 s.c2)) (f1 s.c0 (f1 t.c2 t.c2))) (f2 (f1 t.c0 (f1 s.c2 s.c2)) (f1 s.c0 (f1 t.c2 t.c2)))) (f2 (f1 t.c0 (f1 s.c2 s.c2)) (f1 s.c0 (f1 t.c2 t.c2))))) (f4 (f1 (f1 s.c0 (f1 t.c2 t.c2)) (f1 (f2 (f1 t.c0 (f1 s.c2 s.c2)) (f1 s.c0 (f1 t.c2 t.c2))) (f2 (f1 t.c0 (f1 s.c2 s.c2)) (f1 s.c0 (f1 t.c2 t.c2))))) (f1 (f1 s.c0 (f1 t.c2 t.c2)) (f1 (f2 (f1 t.c0 (f1 s.c2 s.c2)) (f1 s.c0 (f1 t.c2 t.c2))) (f2 (f1 t.c0 (f1 s.c2 s.c2)) (f1 s.c0 (f1 t.c2 t.c2)))))), c1 := f2 (f1 (f2 (f1 t.c1 (f1 (f1 s.c2 s.c2) s.c2)) (f1 s.c1 (f1 (f1 t.c2 t.c2) t.c2))) (f2 (f1 (f1 s.c0 (f1 t.c2 t.c2)) (f1 (f2 (f1 t.c0 (f1 s.c2 s.c2)) (f1 s.c0 (f1 t.c2 t.c2))) (f2 (f1 t.c0 (f1 s.c2 s.c2)) (f1 s.c0 (f1 t.c2 t.c2))))) (f2 (f2 (f1 (f2 (f1 t.c1 (f1 (f1 s.c2 s.c2) s.c2)) (f1 s.c1 (f1 (f1 t.c2 t.c2) t.c2))) (f2 (f1 t.c1 (f1 (f1 s.c2 s.c2) s.c2)) (f1 s.c1 (f1 (f1 t.c2 t.c2) t.c2)))) (f1 (f1 (f2 (f1 t.c0 (f1 s.c2 s.c2)) (f1 s.c0 (f1 t.c2 t.c2))) (f2 (f1 t.c0 (f1 s.c2 s.c2)) (f1 s.c0 (f1 t.c2 t.c2)))) (f2 (f1 t.c0 (f1 s.c2 s.c2)) (f1 s.c0 (f1 t.c2 t.c2))))) (f4 (f1 (f1 s.c0 (f1 t.c2 t.c2)) (f1 (f2 (f1 t.c0 (f1 s.c2 s.c2)) (f1 s.c0 (f1 t.c2 t.c2))) (f2 (f1 t.c0 (f1 s.c2 s.c2)) (f1 s.c0 (f1 t.c2 t.c2))))) (f1 (f1 s.c0 (f1 t.c2 t.c2)) (f1 (f2 (f1 t.c0 (f1 s.c2 s.c2)) (f1 s.c0 (f1 t.c2 t.c2))) (f2 (f1 t.c0 (f1 s.c2 s.c2)) (f1 s.c0 (f1 t.c2 t.c2))))))))) (f1 (f1 s.c1 (f1 (f1 t.c2 t.c2) t.c2)) (f1 (f1 (f2 (f1 t.c0 (f1 s.c2 s.c2)) (f1 s.c0 (f1 t.c2 t.c2))) (f2 (f1 t.c0 (f1 s.c2 s.c2)) (f1 s.c0 (f1 t.c2 t.c2)))) (f2 (f1 t.c0 (f1 s.c2 s.c2)) (f1 s.c0 (f1 t.c2 t.c2))))), c2 := f1 (f1 s.c2 t.c2) (f2 (f1 t.c0 (f1 s.c2 s.c2)) (f1 s.c0 (f1 t.c2 t.c2))) })))))
        (.br (f0 (f2 (f1 t.c0 (f1 s.c2 s.c2)) (f1 s.c0 (f1 t.c2 t.c2))))
          (.leaf (some (zeroFp6)))
          (.leaf (some ({ c0 := f2 (f2 (f1 (f2 (f1 t.c1 (f1 (f1 s.c2 s.c2) s.c2)) (f1 s.c1 (f1 (f1 t.c2 t.c2) t.c2))) (f2 (f1 t.c1 (f1 (f1 s.c2 s.c2) s.c2)) (f1 s.c1 (f1 (f1 t.c2 t.c2) t.c2)))) (f1 (f1 (f2 (f1 t.c0 (f1 s.c2 s.c2)) (f1 s.c0 (f1 t.c2 t.c2))) (f2 (f1 t.c0 (f1 s.c2 s.c2)) (f1 s.c0 (f1 t.c2 t.c2)))) (f2 (f1 t.c0 (f1 s.c2 s.c2)) (f1 s.c0 (f1 t.c2 t.c2))))) (f4 (f1 (f1 s.c0 (f1 t.c2 t.c2)) (f1 (f2 (f1 t.c0 (f1 s.c2 s.c2)) (f1 s.c0 (f1 t.c2 t.c2))) (f2 (f1 t.c0 (f1 s.c2 s.c2)) (f1 s.c0 (f1 t.c2 t.c2))))) (f1 (f1 s.c0 (f1 t.c2 t.c2)) (f1 (f2 (f1 t.c0 (f1 s.c2 s.c2)) (f1 s.c0 (f1 t.c2 t.c2))) (f2 (f1 t.c0 (f1 s.c2 s.c2)) (f1 s.c0 (f1 t.c2 t.c2)))))), c1 := f2 (f1 (f2 (f1 t.c1 (f1 (f1 s.c2 s.c2) s.c2)) (f1 s.c1 (f1 (f1 t.c2 t.c2) t.c2))) (f2 (f1 (f1 s.c0 (f1 t.c2 t.c2)) (f1 (f2 (f1 t.c0 (f1 s.c2 s.c2)) (f1 s.c0 (f1 t.c2 t.c2))) (f2 (f1 t.c0 (f1 s.c2 s.c2)) (f1 s.c0 (f1 t.c2 t.c2))))) (f2 (f2 (f1 (f2 (f1 t.c1 (f1 (f1 s.c2 s.c2) s.c2)) (f1 s.c1 (f1 (f1 t.c2 t.c2) t.c2))) (f2 (f1 t.c1 (f1 (f1 s.c2 s.c2) s.c2)) (f1 s.c1 (f1 (f1 t.c2 t.c2) t.c2)))) (f1 (f1 (f2 (f1 t.c0 (f1 s.c2 s.c2)) (f1 s.c0 (f1 t.c2 t.c2))) (f2 (f1 t.c0 (f1 s.c2 s.c2)) (f1 s.c0 (f1 t.c2 t.c2)))) (f2 (f1 t.c0 (f1 s.c2 s.c2)) (f1 s.c0 (f1 t.c2 t.c2))))) (f4 (f1 (f1 s.c0 (f1 t.c2 t.c2)) (f1 (f2 (f1 t.c0 (f1 s.c2 s.c2)) (f1 s.c0 (f1 t.c2 t.c2))) (f2 (f1 t.c0 (f1 s.c2 s.c2)) (f1 s.c0 (f1 t.c2 t.c2))))) (f1 (f1 s.c0 (f1 t.c2 t.c2)) (f1 (f2 (f1 t.c0 (f1 s.c2 s.c2)) (f1 s.c0 (f1 t.c2 t.c2))) (f2 (f1 t.c0 (f1 s.c2 s.c2)) (f1 s.c0 (f1 t.c2 t.c2))))))))) (f1 (f1 s.c1 (f1 (f1 t.c2 t.c2) t.c2)) (f1 (f1 (f2 (f1 t.c0 (f1 s.c2 s.c2)) (f1 s.c0 (f1 t.c2 t.c2))) (f2 (f1 t.c0 (f1 s.c2 s.c2)) (f1 s.c0 (f1 t.c2 t.c2)))) (f2 (f1 t.c0 (f1 s.c2 s.c2)) (f1 s.c0 (f1 t.c2 t.c2))))), c2 := f1 (f1 s.c2 t.c2) (f2 (f1 t.c0 (f1 s.c2 s.c2)) (f1 s.c0 (f1 t.c2 t.c2))) })))))))
theorem plusG2_run (f0 : Fp2 → Bool) (f1 : Fp2 → Fp2 → Fp2) (f2 : Fp2 → Fp2 → Fp2) (f3 : Fp6 → Fp6) (f4 : Fp2 → Fp2 → Fp2) (s : Fp6) (t : Fp6) : plainRun (En [(97, K1 (kRow Fp2).arg kBool.rs.res f0), (129, K2 (kRow Fp2).arg (kRow Fp2).arg (kRow Fp2).rs.res f1), (130, K2 (kRow Fp2).arg (kRow Fp2).arg (kRow Fp2).rs.res f2), (99, K1 (kRow Fp6).arg (kRow Fp6).rs.res f3), (131, K2 (kRow Fp2).arg (kRow Fp2).arg (kRow Fp2).rs.res f4)]) (kRow Fp6).rs 300 Try.f82 [.one ((kRow Fp6).av s), .one ((kRow Fp6).av t)] = plusG2_T f0 f1 f2 f3 f4 s t := by kernel_rfl
theorem plusG2_sat (f0 : Fp2 → Bool) (f1 : Fp2 → Fp2 → Fp2) (f2 : Fp2 → Fp2 → Fp2) (f3 : Fp6 → Fp6) (f4 : Fp2 → Fp2 → Fp2) (s : Fp6) (t : Fp6) : (plusG2_T f0 f1 f2 f3 f4 s t).sat fun q => q = some (plusG2_G f0 f1 f2 f3 f4 s t) := ⟨fun h0 => (show some _ = some _ from congrArg some (by unfold plusG2_G; rw [h0])), fun h0 => ⟨fun h1 => (show some _ = some _ from congrArg some (by unfold plusG2_G; rw [h0, h1])), fun h1 => ⟨fun h2 => ⟨fun h3 => (show some _ = some _ from congrArg some (by unfold plusG2_G; rw [h0, h1, h2, h3])), fun h3 => ⟨fun _ => (show some _ = some _ from congrArg some (by unfold plusG2_G; rw [h0, h1, h2, h3])), fun h4 => absurd (h2.symm.trans h4) (by decide)⟩⟩, fun h2 => ⟨fun h3 => absurd (h2.symm.trans h3) (by decide), fun _ => (show some _ = some _ from congrArg some (by unfold plusG2_G; rw [h0, h1, h2]))⟩⟩⟩⟩
def plusG2 (s : Fp6) (t : Fp6) : Fp6 := plusG2_G zeroG2 halfF2 subF2 twiceG2 addF2 s t
theorem plusG2_ok : CallOk Try.prog 82 (K2 (kRow Fp6).arg (kRow Fp6).arg (kRow Fp6).rs.res plusG2) :=
  P2 (En_ok (.cons zeroG2_ok (.cons halfF2_ok (.cons subF2_ok (.cons twiceG2_ok (.cons addF2_ok .nil)))))) Try.func82 (bodied Try.func82 (by kernel_rfl) (by kernel_rfl)) 300 (kRow Fp6) (kRow Fp6) (kRow Fp6).rs plusG2 (plusG2_run zeroG2 halfF2 subF2 twiceG2 addF2) (plusG2_sat zeroG2 halfF2 subF2 twiceG2 addF2)
def addG2_G (f0 : Fp6 → Pg2) (f1 : Fp6 → Fp6 → Fp6) (f2 : Pg2 → Fp6) (a : Pg2) (b : Pg2) : Pg2 := (f0 (f1 (f2 a) (f2 b)))
def addG2_T (f0 : Fp6 → Pg2) (f1 : Fp6 → Fp6 → Fp6) (f2 : Pg2 → Fp6) (a : Pg2) (b : Pg2) : Tree (Option (Pg2)) :=
  (.leaf (some (f0 (f1 (f2 a) (f2 b)))))
theorem addG2_run (f0 : Fp6 → Pg2) (f1 : Fp6 → Fp6 → Fp6) (f2 : Pg2 → Fp6) (a : Pg2) (b : Pg2) : plainRun (En [(81, K1 (kRow Fp6).arg (kRow Pg2).rs.res f0), (82, K2 (kRow Fp6).arg (kRow Fp6).arg (kRow Fp6).rs.res f1), (83, K1 (kRow Pg2).arg (kRow Fp6).rs.res f2)]) (kRow Pg2).rs 300 Try.f38 [.one ((kRow Pg2).av a), .one ((kRow Pg2).av b)] = addG2_T f0 f1 f2 a b := by kernel_rfl
theorem addG2_sat (f0 : Fp6 → Pg2) (f1 : Fp6 → Fp6 → Fp6) (f2 : Pg2 → Fp6) (a : Pg2) (b : Pg2) : (addG2_T f0 f1 f2 a b).sat fun q => q = some (addG2_G f0 f1 f2 a b) := (show some _ = some _ from rfl)
def addG2 (a : Pg2) (b : Pg2) : Pg2 := addG2_G laysG2 plusG2 liftG2 a b
theorem addG2_ok : CallOk Try.prog 38 (K2 (kRow Pg2).arg (kRow Pg2).arg (kRow Pg2).rs.res addG2) :=
  P2 (En_ok (.cons laysG2_ok (.cons plusG2_ok (.cons liftG2_ok .nil)))) Try.func38 (bodied Try.func38 (by kernel_rfl) (by kernel_rfl)) 300 (kRow Pg2) (kRow Pg2) (kRow Pg2).rs addG2 (addG2_run laysG2 plusG2 liftG2) (addG2_sat laysG2 plusG2 liftG2)
def negG2_G (f0 : Fp2 → Fp2) (p : Pg2) : Pg2 := (match (p.inf) with | true => (p) | false => ({ x := p.x, y := f0 p.y, inf := false }))
def negG2_T (f0 : Fp2 → Fp2) (p : Pg2) : Tree (Option (Pg2)) :=
  (.br (p.inf)
    (.leaf (some (p)))
    (.leaf (some ({ x := p.x, y := f0 p.y, inf := false }))))
theorem negG2_run (f0 : Fp2 → Fp2) (p : Pg2) : plainRun (En [(86, K1 (kRow Fp2).arg (kRow Fp2).rs.res f0)]) (kRow Pg2).rs 300 Try.f40 [.one ((kRow Pg2).av p)] = negG2_T f0 p := by kernel_rfl
theorem negG2_sat (f0 : Fp2 → Fp2) (p : Pg2) : (negG2_T f0 p).sat fun q => q = some (negG2_G f0 p) := ⟨fun h0 => (show some _ = some _ from congrArg some (by unfold negG2_G; rw [h0])), fun h0 => (show some _ = some _ from congrArg some (by unfold negG2_G; rw [h0]))⟩
def negG2 (p : Pg2) : Pg2 := negG2_G negF2 p
theorem negG2_ok : CallOk Try.prog 40 (K1 (kRow Pg2).arg (kRow Pg2).rs.res negG2) :=
  P1 (En_ok (.cons negF2_ok .nil)) Try.func40 (bodied Try.func40 (by kernel_rfl) (by kernel_rfl)) 300 (kRow Pg2) (kRow Pg2).rs negG2 (negG2_run negF2) (negG2_sat negF2)
def eqG2_G (a : Pg2) (b : Pg2) : Bool := ((pg2Eq (a) (b)))
def eqG2_T (a : Pg2) (b : Pg2) : Tree (Option (Bool)) :=
  (.leaf (some ((pg2Eq (a) (b)))))
theorem eqG2_run (a : Pg2) (b : Pg2) : plainRun (En []) kBool.rs 300 Try.f44 [.one ((kRow Pg2).av a), .one ((kRow Pg2).av b)] = eqG2_T a b := by kernel_rfl
theorem eqG2_sat (a : Pg2) (b : Pg2) : (eqG2_T a b).sat fun q => q = some (eqG2_G a b) := (show some _ = some _ from rfl)
def eqG2 (a : Pg2) (b : Pg2) : Bool := eqG2_G  a b
theorem eqG2_ok : CallOk Try.prog 44 (K2 (kRow Pg2).arg (kRow Pg2).arg kBool.rs.res eqG2) :=
  P2 (En_ok .nil) Try.func44 (bodied Try.func44 (by kernel_rfl) (by kernel_rfl)) 300 (kRow Pg2) (kRow Pg2) kBool.rs eqG2 (eqG2_run ) (eqG2_sat )
end Go.Proofs.Ytchlamfdofpolaa

set_option linter.unusedSimpArgs false
set_option linter.unusedVariables false
namespace Go.Proofs.Ytchlamfdofpolaa
open Go.RowKit
def gen2R_G  : Pg2 := ({ x := { c0 := { l0 := UInt64.ofNat 15312334153293348280, l1 := UInt64.ofNat 841050694974028783, l2 := UInt64.ofNat 12993178926126977399, l3 := UInt64.ofNat 14331714969349929730, l4 := UInt64.ofNat 2740446039084699729, l5 := UInt64.ofNat 165123225776229009 }, c1 := { l0 := UInt64.ofNat 16549740192668593022, l1 := UInt64.ofNat 3696594454104530263, l2 := UInt64.ofNat 13103893525273989193, l3 := UInt64.ofNat 6443473286224459290, l4 := UInt64.ofNat 9055845637167730533, l5 := UInt64.ofNat 1432192374203850592 } }, y := { c0 := { l0 := UInt64.ofNat 16254428414758889473, l1 := UInt64.ofNat 10536956157198377609, l2 := UInt64.ofNat 7873024875724591404, l3 := UInt64.ofNat 12537348094477325223, l4 := UInt64.ofNat 10144865889576432922, l5 := UInt64.ofNat 929383263523139089 }, c1 := { l0 := UInt64.ofNat 12297368366147926462, l1 := UInt64.ofNat 4555124010822409633, l2 := UInt64.ofNat 2771000935339432363, l3 := UInt64.ofNat 14645187562128761775, l4 := UInt64.ofNat 3651525051980876697, l5 := UInt64.ofNat 434250606344352972 } }, inf := false })
def gen2R_T  : Tree (Option (Pg2)) :=
  (.leaf (some ({ x := { c0 := { l0 := UInt64.ofNat 15312334153293348280, l1 := UInt64.ofNat 841050694974028783, l2 := UInt64.ofNat 12993178926126977399, l3 := UInt64.ofNat 14331714969349929730, l4 := UInt64.ofNat 2740446039084699729, l5 := UInt64.ofNat 165123225776229009 }, c1 := { l0 := UInt64.ofNat 16549740192668593022, l1 := UInt64.ofNat 3696594454104530263, l2 := UInt64.ofNat 13103893525273989193, l3 := UInt64.ofNat 6443473286224459290, l4 := UInt64.ofNat 9055845637167730533, l5 := UInt64.ofNat 1432192374203850592 } }, y := { c0 := { l0 := UInt64.ofNat 16254428414758889473, l1 := UInt64.ofNat 10536956157198377609, l2 := UInt64.ofNat 7873024875724591404, l3 := UInt64.ofNat 12537348094477325223, l4 := UInt64.ofNat 10144865889576432922, l5 := UInt64.ofNat 929383263523139089 }, c1 := { l0 := UInt64.ofNat 12297368366147926462, l1 := UInt64.ofNat 4555124010822409633, l2 := UInt64.ofNat 2771000935339432363, l3 := UInt64.ofNat 14645187562128761775, l4 := UInt64.ofNat 3651525051980876697, l5 := UInt64.ofNat 434250606344352972 } }, inf := false })))
theorem gen2R_run  : plainRun (En []) (kRow Pg2).rs 300 Try.f46 [] = gen2R_T  := by kernel_rfl
theorem gen2R_sat  : (gen2R_T ).sat fun q => q = some (gen2R_G ) := (show some _ = some _ from rfl)
def gen2R  : Pg2 := gen2R_G
theorem gen2R_ok : CallOk Try.prog 46 (K0 (kRow Pg2).rs.res gen2R) :=
  P0 (En_ok .nil) Try.func46 (bodied Try.func46 (by kernel_rfl) (by kernel_rfl)) 300  (kRow Pg2).rs gen2R (gen2R_run ) (gen2R_sat )
def mulS_G (f0 : Fp → Fp → Fp) (f1 : Fp2 → Fp2 → Fp2) (a : Fp2) (b : Fp2) (small : Bool) : Fp2 := (match (small) with | true => ({ c0 := f0 a.c0 b.c0, c1 := zeroFp }) | false => (f1 a b))
def mulS_T (f0 : Fp → Fp → Fp) (f1 : Fp2 → Fp2 → Fp2) (a : Fp2) (b : Fp2) (small : Bool) : Tree (Option (Fp2)) :=
  (.br (small)
    (.leaf (some ({ c0 := f0 a.c0 b.c0, c1 := zeroFp })))
    (.leaf (some (f1 a b))))
theorem mulS_run (f0 : Fp → Fp → Fp) (f1 : Fp2 → Fp2 → Fp2) (a : Fp2) (b : Fp2) (small : Bool) : plainRun (En [(69, Kff f0), (93, K2 (kRow Fp2).arg (kRow Fp2).arg (kRow Fp2).rs.res f1)]) (kRow Fp2).rs 300 Try.f107 [.one ((kRow Fp2).av a), .one ((kRow Fp2).av b), .one (kBool.av small)] = mulS_T f0 f1 a b small := by kernel_rfl
theorem mulS_sat (f0 : Fp → Fp → Fp) (f1 : Fp2 → Fp2 → Fp2) (a : Fp2) (b : Fp2) (small : Bool) : (mulS_T f0 f1 a b small).sat fun q => q = some (mulS_G f0 f1 a b small) := ⟨fun h0 => (show some _ = some _ from congrArg some (by unfold mulS_G; rw [h0])), fun h0 => (show some _ = some _ from congrArg some (by unfold mulS_G; rw [h0]))⟩
def mulS (a : Fp2) (b : Fp2) (small : Bool) : Fp2 := mulS_G mulPF mul2R a b small
theorem mulS_ok : CallOk Try.prog 107 (K3 (kRow Fp2).arg (kRow Fp2).arg kBool.arg (kRow Fp2).rs.res mulS) :=
  P3 (En_ok (.cons mulP_ok (.cons mul2R_ok .nil))) Try.func107 (bodied Try.func107 (by kernel_rfl) (by kernel_rfl)) 300 (kRow Fp2) (kRow Fp2) kBool (kRow Fp2).rs mulS (mulS_run mulPF mul2R) (mulS_sat mulPF mul2R)
def b3R_G (f0 : Fp2 → Fp2 → Fp2) (f1 : Fp2 → Fp2 → Fp2) (f2 : Fp2) (a : Fp2) (small : Bool) : Fp2 := (match (small) with | true => (f0 (f0 (f0 (f0 a a) (f0 a a)) (f0 (f0 a a) (f0 a a))) (f0 (f0 a a) (f0 a a))) | false => (f1 (f0 (f0 (f0 (f0 a a) (f0 a a)) (f0 (f0 a a) (f0 a a))) (f0 (f0 a a) (f0 a a))) f2))
def b3R_T (f0 : Fp2 → Fp2 → Fp2) (f1 : Fp2 → Fp2 → Fp2) (f2 : Fp2) (a : Fp2) (small : Bool) : Tree (Option (Fp2)) :=
  (.br (small)
    (.leaf (some (f0 (f0 (f0 (f0 a a) (f0 a a)) (f0 (f0 a a) (f0 a a))) (f0 (f0 a a) (f0 a a)))))
    (.leaf (some (f1 (f0 (f0 (f0 (f0 a a) (f0 a a)) (f0 (f0 a a) (f0 a a))) (f0 (f0 a a) (f0 a a))) f2))))
theorem b3R_run (f0 : Fp2 → Fp2 → Fp2) (f1 : Fp2 → Fp2 → Fp2) (f2 : Fp2) (a : Fp2) (small : Bool) : plainRun (En [(94, K2 (kRow Fp2).arg (kRow Fp2).arg (kRow Fp2).rs.res f0), (93, K2 (kRow Fp2).arg (kRow Fp2).arg (kRow Fp2).rs.res f1), (140, K0 (kRow Fp2).rs.res f2)]) (kRow Fp2).rs 300 Try.f109 [.one ((kRow Fp2).av a), .one (kBool.av small)] = b3R_T f0 f1 f2 a small := by kernel_rfl
theorem b3R_sat (f0 : Fp2 → Fp2 → Fp2) (f1 : Fp2 → Fp2 → Fp2) (f2 : Fp2) (a : Fp2) (small : Bool) : (b3R_T f0 f1 f2 a small).sat fun q => q = some (b3R_G f0 f1 f2 a small) := ⟨fun h0 => (show some _ = some _ from congrArg some (by unfold b3R_G; rw [h0])), fun h0 => (show some _ = some _ from congrArg some (by unfold b3R_G; rw [h0]))⟩
def b3R (a : Fp2) (small : Bool) : Fp2 := b3R_G add2R mul2R xi2R a small
theorem b3R_ok : CallOk Try.prog 109 (K2 (kRow Fp2).arg kBool.arg (kRow Fp2).rs.res b3R) :=
  P2 (En_ok (.cons add2R_ok (.cons mul2R_ok (.cons xi2R_ok .nil)))) Try.func109 (bodied Try.func109 (by kernel_rfl) (by kernel_rfl)) 300 (kRow Fp2) kBool (kRow Fp2).rs b3R (b3R_run add2R mul2R xi2R) (b3R_sat add2R mul2R xi2R)
def addS5_G (f0 : Fp2 → Fp2 → Bool → Fp2) (f1 : Fp2 → Fp2 → Fp2) (f2 : Fp2 → Fp2 → Fp2) (f3 : Fp2 → Bool → Fp2) (s : Fp6) (t : Fp6) (small : Bool) : Fp6 := ({ c0 := f2 (f0 (f2 (f2 (f0 (f1 s.c0 s.c1) (f1 t.c0 t.c1) small) (f0 s.c0 t.c0 small)) (f0 s.c1 t.c1 small)) (f2 (f0 s.c1 t.c1 small) (f3 (f0 s.c2 t.c2 small) small)) small) (f0 (f2 (f2 (f0 (f1 s.c1 s.c2) (f1 t.c1 t.c2) small) (f0 s.c1 t.c1 small)) (f0 s.c2 t.c2 small)) (f3 (f2 (f2 (f0 (f1 s.c0 s.c2) (f1 t.c0 t.c2) small) (f0 s.c0 t.c0 small)) (f0 s.c2 t.c2 small)) small) small), c1 := f1 (f0 (f2 (f0 s.c1 t.c1 small) (f3 (f0 s.c2 t.c2 small) small)) (f1 (f0 s.c1 t.c1 small) (f3 (f0 s.c2 t.c2 small) small)) small) (f0 (f3 (f2 (f2 (f0 (f1 s.c0 s.c2) (f1 t.c0 t.c2) small) (f0 s.c0 t.c0 small)) (f0 s.c2 t.c2 small)) small) (f1 (f1 (f0 s.c0 t.c0 small) (f0 s.c0 t.c0 small)) (f0 s.c0 t.c0 small)) small), c2 := f1 (f0 (f1 (f0 s.c1 t.c1 small) (f3 (f0 s.c2 t.c2 small) small)) (f2 (f2 (f0 (f1 s.c1 s.c2) (f1 t.c1 t.c2) small) (f0 s.c1 t.c1 small)) (f0 s.c2 t.c2 small)) small) (f0 (f1 (f1 (f0 s.c0 t.c0 small) (f0 s.c0 t.c0 small)) (f0 s.c0 t.c0 small)) (f2 (f2 (f0 (f1 s.c0 s.c1) (f1 t.c0 t.c1) small) (f0 s.c0 t.c0 small)) (f0 s.c1 t.c1 small)) small) })
def addS5_T (f0 : Fp2 → Fp2 → Bool → Fp2) (f1 : Fp2 → Fp2 → Fp2) (f2 : Fp2 → Fp2 → Fp2) (f3 : Fp2 → Bool → Fp2) (s : Fp6) (t : Fp6) (small : Bool) : Tree (Option (Fp6)) :=
  (.leaf (some ({ c0 := f2 (f0 (f2 (f2 (f0 (f1 s.c0 s.c1) (f1 t.c0 t.c1) small) (f0 s.c0 t.c0 small)) (f0 s.c1 t.c1 small)) (f2 (f0 s.c1 t.c1 small) (f3 (f0 s.c2 t.c2 small) small)) small) (f0 (f2 (f2 (f0 (f1 s.c1 s.c2) (f1 t.c1 t.c2) small) (f0 s.c1 t.c1 small)) (f0 s.c2 t.c2 small)) (f3 (f2 (f2 (f0 (f1 s.c0 s.c2) (f1 t.c0 t.c2) small) (f0 s.c0 t.c0 small)) (f0 s.c2 t.c2 small)) small) small), c1 := f1 (f0 (f2 (f0 s.c1 t.c1 small) (f3 (f0 s.c2 t.c2 small) small)) (f1 (f0 s.c1 t.c1 small) (f3 (f0 s.c2 t.c2 small) small)) small) (f0 (f3 (f2 (f2 (f0 (f1 s.c0 s.c2) (f1 t.c0 t.c2) small) (f0 s.c0 t.c0 small)) (f0 s.c2 t.c2 small)) small) (f1 (f1 (f0 s.c0 t.c0 small) (f0 s.c0 t.c0 small)) (f0 s.c0 t.c0 small)) small), c2 := f1 (f0 (f1 (f0 s.c1 t.c1 small) (f3 (f0 s.c2 t.c2 small) small)) (f2 (f2 (f0 (f1 s.c1 s.c2) (f1 t.c1 t.c2) small) (f0 s.c1 t.c1 small)) (f0 s.c2 t.c2 small)) small) (f0 (f1 (f1 (f0 s.c0 t.c0 small) (f0 s.c0 t.c0 small)) (f0 s.c0 t.c0 small)) (f2 (f2 (f0 (f1 s.c0 s.c1) (f1 t.c0 t.c1) small) (f0 s.c0 t.c0 small)) (f0 s.c1 t.c1 small)) small) })))
theorem addS5_run (f0 : Fp2 → Fp2 → Bool → Fp2) (f1 : Fp2 → Fp2 → Fp2) (f2 : Fp2 → Fp2 → Fp2) (f3 : Fp2 → Bool → Fp2) (s : Fp6) (t : Fp6) (small : Bool) : plainRun (En [(107, K3 (kRow Fp2).arg (kRow Fp2).arg kBool.arg (kRow Fp2).rs.res f0), (94, K2 (kRow Fp2).arg (kRow Fp2).arg (kRow Fp2).rs.res f1), (108, K2 (kRow Fp2).arg (kRow Fp2).arg (kRow Fp2).rs.res f2), (109, K2 (kRow Fp2).arg kBool.arg (kRow Fp2).rs.res f3)]) (kRow Fp6).rs 300 Try.f59 [.one ((kRow Fp6).av s), .one ((kRow Fp6).av t), .one (kBool.av small)] = addS5_T f0 f1 f2 f3 s t small := by kernel_rfl
theorem addS5_sat (f0 : Fp2 → Fp2 → Bool → Fp2) (f1 : Fp2 → Fp2 → Fp2) (f2 : Fp2 → Fp2 → Fp2) (f3 : Fp2 → Bool → Fp2) (s : Fp6) (t : Fp6) (small : Bool) : (addS5_T f0 f1 f2 f3 s t small).sat fun q => q = some (addS5_G f0 f1 f2 f3 s t small) := (show some _ = some _ from rfl)
def addS5 (s : Fp6) (t : Fp6) (small : Bool) : Fp6 := addS5_G mulS add2R sub2R b3R s t small
theorem addS5_ok : CallOk Try.prog 59 (K3 (kRow Fp6).arg (kRow Fp6).arg kBool.arg (kRow Fp6).rs.res addS5) :=
  P3 (En_ok (.cons mulS_ok (.cons add2R_ok (.cons sub2R_ok (.cons b3R_ok .nil))))) Try.func59 (bodied Try.func59 (by kernel_rfl) (by kernel_rfl)) 300 (kRow Fp6) (kRow Fp6) kBool (kRow Fp6).rs addS5 (addS5_run mulS add2R sub2R b3R) (addS5_sat mulS add2R sub2R b3R)
def none5_G (f0 : Fp2) : Fp6 := ({ c0 := zeroFp2, c1 := f0, c2 := zeroFp2 })
def none5_T (f0 : Fp2) : Tree (Option (Fp6)) :=
  (.leaf (some ({ c0 := zeroFp2, c1 := f0, c2 := zeroFp2 })))
theorem none5_run (f0 : Fp2) : plainRun (En [(111, K0 (kRow Fp2).rs.res f0)]) (kRow Fp6).rs 300 Try.f110 [] = none5_T f0 := by kernel_rfl
theorem none5_sat (f0 : Fp2) : (none5_T f0).sat fun q => q = some (none5_G f0) := (show some _ = some _ from rfl)
def none5  : Fp6 := none5_G one2R
theorem none5_ok : CallOk Try.prog 110 (K0 (kRow Fp6).rs.res none5) :=
  P0 (En_ok (.cons one2R_ok .nil)) Try.func110 (bodied Try.func110 (by kernel_rfl) (by kernel_rfl)) 300  (kRow Fp6).rs none5 (none5_run one2R) (none5_sat one2R)
def of2R_G (f0 : Fp6) (f1 : Fp2) (a : Pg2) : Fp6 := (match (a.inf) with | true => (f0) | false => ({ c0 := a.x, c1 := a.y, c2 := f1 }))
def of2R_T (f0 : Fp6) (f1 : Fp2) (a : Pg2) : Tree (Option (Fp6)) :=
  (.br (a.inf)
    (.leaf (some (f0)))
    (.leaf (some ({ c0 := a.x, c1 := a.y, c2 := f1 }))))
theorem of2R_run (f0 : Fp6) (f1 : Fp2) (a : Pg2) : plainRun (En [(110, K0 (kRow Fp6).rs.res f0), (111, K0 (kRow Fp2).rs.res f1)]) (kRow Fp6).rs 300 Try.f85 [.one ((kRow Pg2).av a)] = of2R_T f0 f1 a := by kernel_rfl
theorem of2R_sat (f0 : Fp6) (f1 : Fp2) (a : Pg2) : (of2R_T f0 f1 a).sat fun q => q = some (of2R_G f0 f1 a) := ⟨fun h0 => (show some _ = some _ from congrArg some (by unfold of2R_G; rw [h0])), fun h0 => (show some _ = some _ from congrArg some (by unfold of2R_G; rw [h0]))⟩
def of2R (a : Pg2) : Fp6 := of2R_G none5 one2R a
theorem of2R_ok : CallOk Try.prog 85 (K1 (kRow Pg2).arg (kRow Fp6).rs.res of2R) :=
  P1 (En_ok (.cons none5_ok (.cons one2R_ok .nil))) Try.func85 (bodied Try.func85 (by kernel_rfl) (by kernel_rfl)) 300 (kRow Pg2) (kRow Fp6).rs of2R (of2R_run none5 one2R) (of2R_sat none5 one2R)
def to2R_G (f0 : Fp2 → Fp2 × Int) (f1 : Fp2 → Fp2 → Fp2) (s : Fp6) : Pg2 := (match ((f0 s.c2).snd != 0) with | true => (infG2) | false => ({ x := f1 s.c0 (f0 s.c2).fst, y := f1 s.c1 (f0 s.c2).fst, inf := false }))
def to2R_T (f0 : Fp2 → Fp2 × Int) (f1 : Fp2 → Fp2 → Fp2) (s : Fp6) : Tree (Option (Pg2)) :=
  (.br ((f0 s.c2).snd != 0)
    (.leaf (some (infG2)))
    (.leaf (some ({ x := f1 s.c0 (f0 s.c2).fst, y := f1 s.c1 (f0 s.c2).fst, inf := false }))))
theorem to2R_run (f0 : Fp2 → Fp2 × Int) (f1 : Fp2 → Fp2 → Fp2) (s : Fp6) : plainRun (En [(133, K1 (kRow Fp2).arg ((kRow Fp2).rs2 kInt).res f0), (93, K2 (kRow Fp2).arg (kRow Fp2).arg (kRow Fp2).rs.res f1)]) (kRow Pg2).rs 300 Try.f84 [.one ((kRow Fp6).av s)] = to2R_T f0 f1 s := by kernel_rfl
theorem to2R_sat (f0 : Fp2 → Fp2 × Int) (f1 : Fp2 → Fp2 → Fp2) (s : Fp6) : (to2R_T f0 f1 s).sat fun q => q = some (to2R_G f0 f1 s) := ⟨fun h0 => (show some _ = some _ from congrArg some (by unfold to2R_G; rw [h0])), fun h0 => (show some _ = some _ from congrArg some (by unfold to2R_G; rw [h0]))⟩
def to2R (s : Fp6) : Pg2 := to2R_G inv2R mul2R s
theorem to2R_ok : CallOk Try.prog 84 (K1 (kRow Fp6).arg (kRow Pg2).rs.res to2R) :=
  P1 (En_ok (.cons inv2R_ok (.cons mul2R_ok .nil))) Try.func84 (bodied Try.func84 (by kernel_rfl) (by kernel_rfl)) 300 (kRow Fp6) (kRow Pg2).rs to2R (to2R_run inv2R mul2R) (to2R_sat inv2R mul2R)
end Go.Proofs.Ytchlamfdofpolaa

set_option linter.unusedSimpArgs false
set_option linter.unusedVariables false
namespace Go.Proofs.Ytchlamfdofpolaa
def W64 : Nat := 18446744073709551616
def pN : Nat := 0x1a0111ea397fe69a4b1ba7b6434bacd764774b84f38512bf6730d2a0f6b0f6241eabfffeb153ffffb9feffffffffaaab
def rN : Nat := 0x1000000000000000000000000000000000000000000000000000000000000000000000000000000000000000000000000
def Fp.nat (a : Fp) : Nat := a.l0.toNat + W64 * (a.l1.toNat + W64 * (a.l2.toNat + W64 * (a.l3.toNat + W64 * (a.l4.toNat + W64 * a.l5.toNat))))
theorem Fp.nat_lt (a : Fp) : a.nat < rN := by
  have h0 := a.l0.toNat_lt
  have h1 := a.l1.toNat_lt
  have h2 := a.l2.toNat_lt
  have h3 := a.l3.toNat_lt
  have h4 := a.l4.toNat_lt
  have h5 := a.l5.toNat_lt
  unfold Fp.nat rN W64
  omega
theorem Fp.nat_inj {a b : Fp} (h : a.nat = b.nat) : a = b := by
  have h0 := a.l0.toNat_lt
  have h1 := a.l1.toNat_lt
  have h2 := a.l2.toNat_lt
  have h3 := a.l3.toNat_lt
  have h4 := a.l4.toNat_lt
  have h5 := a.l5.toNat_lt
  have k0 := b.l0.toNat_lt
  have k1 := b.l1.toNat_lt
  have k2 := b.l2.toNat_lt
  have k3 := b.l3.toNat_lt
  have k4 := b.l4.toNat_lt
  have k5 := b.l5.toNat_lt
  unfold Fp.nat W64 at h
  obtain ⟨a0, a1, a2, a3, a4, a5⟩ := a
  obtain ⟨b0, b1, b2, b3, b4, b5⟩ := b
  simp only [] at *
  have e0 : a0 = b0 := UInt64.toNat.inj (by omega)
  have e1 : a1 = b1 := UInt64.toNat.inj (by omega)
  have e2 : a2 = b2 := UInt64.toNat.inj (by omega)
  have e3 : a3 = b3 := UInt64.toNat.inj (by omega)
  have e4 : a4 = b4 := UInt64.toNat.inj (by omega)
  have e5 : a5 = b5 := UInt64.toNat.inj (by omega)
  rw [e0, e1, e2, e3, e4, e5]
theorem pLimbs_nat : pLimbs.nat = pN := by decide +kernel
theorem add_step (x y : UInt64) (c : Bool) : (addS x y c).toNat + W64 * (addC x y c).toNat = x.toNat + y.toNat + c.toNat := by
  rw [addS_nat, addC_nat]
  unfold W64
  omega
theorem subB_nat (x y : UInt64) (c : Bool) : (subB x y c).toNat = if x.toNat < y.toNat + c.toNat then 1 else 0 := by
  rw [subB_iff]
  by_cases h : x.toNat < y.toNat + c.toNat <;> simp [h]
theorem sub_step (x y : UInt64) (c : Bool) : (subS x y c).toNat + y.toNat + c.toNat = x.toNat + W64 * (subB x y c).toNat := by
  have hx := x.toNat_lt
  have hy := y.toNat_lt
  have hc : c.toNat ≤ 1 := by cases c <;> simp
  rw [subS_nat, subB_nat]
  unfold W64
  split <;> omega
theorem addT_nat (a b : Fp) : (addT a b).1.nat + rN * (addT a b).2.toNat = a.nat + b.nat := by
  unfold addT
  simp only []
  have s0 := add_step a.l0 b.l0 false
  generalize addC a.l0 b.l0 false = c0 at *
  have s1 := add_step a.l1 b.l1 c0
  generalize addC a.l1 b.l1 c0 = c1 at *
  have s2 := add_step a.l2 b.l2 c1
  generalize addC a.l2 b.l2 c1 = c2 at *
  have s3 := add_step a.l3 b.l3 c2
  generalize addC a.l3 b.l3 c2 = c3 at *
  have s4 := add_step a.l4 b.l4 c3
  generalize addC a.l4 b.l4 c3 = c4 at *
  have s5 := add_step a.l5 b.l5 c4
  generalize addC a.l5 b.l5 c4 = c5 at *
  unfold Fp.nat rN W64 at *
  simp only [Bool.toNat_false] at *
  omega
theorem subT_nat (a b : Fp) : (subT a b).1.nat + b.nat = a.nat + rN * (subT a b).2.toNat := by
  unfold subT
  simp only []
  have s0 := sub_step a.l0 b.l0 false
  generalize subB a.l0 b.l0 false = c0 at *
  have s1 := sub_step a.l1 b.l1 c0
  generalize subB a.l1 b.l1 c0 = c1 at *
  have s2 := sub_step a.l2 b.l2 c1
  generalize subB a.l2 b.l2 c1 = c2 at *
  have s3 := sub_step a.l3 b.l3 c2
  generalize subB a.l3 b.l3 c2 = c3 at *
  have s4 := sub_step a.l4 b.l4 c3
  generalize subB a.l4 b.l4 c3 = c4 at *
  have s5 := sub_step a.l5 b.l5 c4
  generalize subB a.l5 b.l5 c4 = c5 at *
  unfold Fp.nat rN W64 at *
  simp only [Bool.toNat_false] at *
  omega
theorem lessT_eq (a : Fp) : lessT a = subT a pLimbs := rfl
theorem lessF_nat (a : Fp) (o : UInt64) (ho : o.toNat ≤ 1) (h : a.nat + rN * o.toNat < 2 * pN) : (lessF a o).nat = (a.nat + rN * o.toNat) % pN := by
  have h1 := subT_nat a pLimbs
  rw [pLimbs_nat] at h1
  have h2 := (subT a pLimbs).1.nat_lt
  have h3 := a.nat_lt
  have hb : (subT a pLimbs).2.toNat ≤ 1 := by cases (subT a pLimbs).2 <;> simp
  have hd : decide (o < b2u (lessT a).2) = decide (o.toNat < (subT a pLimbs).2.toNat) := by
    rw [lessT_eq]
    refine decide_eq_decide.2 ?_
    rw [UInt64.lt_iff_toNat_lt, b2u_nat]
  unfold lessF
  rw [hd, lessT_eq]
  have hp : pN < rN := by decide +kernel
  have hp0 : 0 < pN := by decide +kernel
  by_cases hc : o.toNat < (subT a pLimbs).2.toNat
  · simp only [hc, decide_true]
    have e0 : o.toNat = 0 := by omega
    have e1 : (subT a pLimbs).2.toNat = 1 := by omega
    rw [e0] at h ⊢
    rw [e1] at h1
    rw [Nat.mod_eq_of_lt (by omega)]
    omega
  · simp only [hc, decide_false]
    have e2 : (subT a pLimbs).1.nat + pN = a.nat + rN * o.toNat := by
      rcases Nat.lt_or_ge (subT a pLimbs).2.toNat o.toNat with hl | hl
      · have e0 : o.toNat = 1 := by omega
        have e1 : (subT a pLimbs).2.toNat = 0 := by omega
        rw [e1] at h1
        rw [e0] at h ⊢
        omega
      · have e1 : (subT a pLimbs).2.toNat = o.toNat := by omega
        rw [e1] at h1
        exact h1
    rw [← e2, Nat.add_mod_right, Nat.mod_eq_of_lt (by omega)]
theorem addF_nat {a b : Fp} (ha : a.nat < pN) (hb : b.nat < pN) : (addF a b).nat = (a.nat + b.nat) % pN := by
  unfold addF
  have h := addT_nat a b
  rw [lessF_nat _ _ (by rw [b2u_nat]; cases (addT a b).2 <;> simp) (by rw [b2u_nat, h]; omega), b2u_nat, h]
theorem subF_nat {a b : Fp} (ha : a.nat < pN) (hb : b.nat < pN) : (subF a b).nat = (a.nat + pN - b.nat) % pN := by
  have h1 := subT_nat a b
  have h2 := (subT a b).1.nat_lt
  have hp : pN < rN := by decide +kernel
  have hd : decide (b2u (subT a b).2 = 0) = decide ((subT a b).2.toNat = 0) := by
    refine decide_eq_decide.2 ⟨fun h => by rw [← b2u_nat, h]; rfl, fun h => UInt64.toNat.inj (by rw [b2u_nat, h]; rfl)⟩
  unfold subF
  rw [hd]
  by_cases hc : (subT a b).2.toNat = 0
  · simp only [hc, decide_true]
    rw [hc] at h1
    rw [show a.nat + pN - b.nat = (subT a b).1.nat + pN by omega, Nat.add_mod_right, Nat.mod_eq_of_lt (by omega)]
  · simp only [hc, decide_false]
    have e1 : (subT a b).2.toNat = 1 := by cases h : (subT a b).2 <;> simp [h] at hc ⊢
    rw [e1] at h1
    have h3 := addT_nat (subT a b).1 pLimbs
    rw [pLimbs_nat] at h3
    have h4 := (addT (subT a b).1 pLimbs).1.nat_lt
    have e2 : (addT (subT a b).1 pLimbs).2.toNat = 1 := by
      cases h : (addT (subT a b).1 pLimbs).2 with
      | true => rfl
      | false => rw [h] at h3; simp only [Bool.toNat_false] at h3; omega
    rw [e2] at h3
    rw [Nat.mod_eq_of_lt (by omega)]
    omega
end Go.Proofs.Ytchlamfdofpolaa
set_option linter.unusedSimpArgs false
set_option linter.unusedVariables false
namespace Go.Proofs.Ytchlamfdofpolaa
def L7.nat (t : L7) : Nat := t.t0.toNat + W64 * (t.t1.toNat + W64 * (t.t2.toNat + W64 * (t.t3.toNat + W64 * (t.t4.toNat + W64 * (t.t5.toNat + W64 * t.t6.toNat)))))
theorem L7.nat_low (t : L7) : t.nat = t.low.nat + rN * t.t6.toNat := by
  unfold L7.nat L7.low Fp.nat rN W64
  simp only []
  omega
theorem zip0 (y t U : Nat) : y + t + W64 * U = (t + W64 * U) + y := by omega
theorem zipS {y t U T Y : Nat} (h : U = T + Y) : y + t + W64 * U = (t + W64 * T) + (y + W64 * Y) := by
  subst h
  unfold W64
  omega
theorem zipE {A d T Y t y : Nat} (h : A = T + Y) (q : d * W64 = y + t) : (A + d) * W64 = (t + W64 * T) + (y + W64 * Y) := by
  rw [h, Nat.add_mul, q, Nat.add_mul, Nat.mul_comm T, Nat.mul_comm Y]
  omega
theorem mac_w (x y t c : UInt64) : (macH x y t c).toNat * W64 + (macL x y t c).toNat = x.toNat * y.toNat + t.toNat + c.toNat := mac_nat x y t c
theorem limb_step {m d y t c R U : Nat} (q : d * W64 + m = y + t + c) (h : R = U + d) : m + W64 * R = (y + t + W64 * U) + c := by
  subst h
  unfold W64 at *
  omega
theorem low_step (t : UInt64) : (mulHi (t * pInv) pLimbs.l0 + b2u (addC (t * pInv * pLimbs.l0) t false)).toNat * W64 = (t * pInv).toNat * pLimbs.l0.toNat + t.toNat := by
  generalize hx : t * pInv = x
  have hx' : x.toNat = t.toNat * 9940570264628428797 % 18446744073709551616 := by rw [← hx, UInt64.toNat_mul]; rfl
  have hp : pLimbs.l0.toNat = 13402431016077863595 := rfl
  have ht := t.toNat_lt
  have hlt := x.toNat_lt
  rw [UInt64.toNat_add, b2u_nat, addC_nat, mulHi_nat, UInt64.toNat_mul, hp]
  simp only [Bool.toNat_false, Nat.add_zero]
  unfold W64
  have key : (x.toNat * 13402431016077863595 % 18446744073709551616 + t.toNat) % 18446744073709551616 = 0 := by
    rw [hx']
    omega
  omega
theorem roundB_nat (t0 t1 t2 t3 t4 t5 top : UInt64) (more : Bool) :
    (roundB t0 t1 t2 t3 t4 t5 top more).nat * W64 = (t0.toNat + W64 * (t1.toNat + W64 * (t2.toNat + W64 * (t3.toNat + W64 * (t4.toNat + W64 * (t5.toNat + W64 * (top.toNat + W64 * more.toNat))))))) + (t0 * pInv).toNat * pN := by
  have q0 := low_step t0
  unfold roundB
  simp only [L7.nat]
  generalize mulHi (t0 * pInv) pLimbs.l0 + b2u (addC (t0 * pInv * pLimbs.l0) t0 false) = d0 at *
  generalize t0 * pInv = x at *
  have q1 := mac_w x pLimbs.l1 t1 d0
  generalize macH x pLimbs.l1 t1 d0 = d1 at *
  have q2 := mac_w x pLimbs.l2 t2 d1
  generalize macH x pLimbs.l2 t2 d1 = d2 at *
  have q3 := mac_w x pLimbs.l3 t3 d2
  generalize macH x pLimbs.l3 t3 d2 = d3 at *
  have q4 := mac_w x pLimbs.l4 t4 d3
  generalize macH x pLimbs.l4 t4 d3 = d4 at *
  have q5 := mac_w x pLimbs.l5 t5 d4
  generalize macH x pLimbs.l5 t5 d4 = d5 at *
  have q6 := add_step top d5 false
  have q7 : (b2u more + b2u (addC top d5 false)).toNat = more.toNat + (addC top d5 false).toNat := by
    rw [UInt64.toNat_add, b2u_nat, b2u_nat]
    cases more <;> cases addC top d5 false <;> rfl
  rw [q7]
  have ep : pN = pLimbs.l0.toNat + W64 * (pLimbs.l1.toNat + W64 * (pLimbs.l2.toNat + W64 * (pLimbs.l3.toNat + W64 * (pLimbs.l4.toNat + W64 * pLimbs.l5.toNat)))) := by decide +kernel
  have exp : x.toNat * pN = x.toNat * pLimbs.l0.toNat + W64 * (x.toNat * pLimbs.l1.toNat + W64 * (x.toNat * pLimbs.l2.toNat + W64 * (x.toNat * pLimbs.l3.toNat + W64 * (x.toNat * pLimbs.l4.toNat + W64 * (x.toNat * pLimbs.l5.toNat))))) := by
    rw [ep]
    simp only [Nat.mul_add, Nat.mul_left_comm x.toNat W64]
  rw [exp]
  have s6 : (addS top d5 false).toNat + W64 * (more.toNat + (addC top d5 false).toNat) = (top.toNat + W64 * more.toNat) + d5.toNat := by
    simp only [Bool.toNat_false] at q6
    unfold W64 at *
    omega
  have s5 := limb_step q5 s6
  have s4 := limb_step q4 s5
  have s3 := limb_step q3 s4
  have s2 := limb_step q2 s3
  have s1 := limb_step q1 s2
  rw [s1]
  generalize x.toNat * pLimbs.l0.toNat = y0 at *
  generalize x.toNat * pLimbs.l1.toNat = y1 at *
  generalize x.toNat * pLimbs.l2.toNat = y2 at *
  generalize x.toNat * pLimbs.l3.toNat = y3 at *
  generalize x.toNat * pLimbs.l4.toNat = y4 at *
  generalize x.toNat * pLimbs.l5.toNat = y5 at *
  exact zipE (zipS (zipS (zipS (zipS (zip0 _ _ _))))) q0
theorem roundF_nat (a : Fp) (b : UInt64) (t : L7) : ∃ m : Nat, m < W64 ∧ (roundF a b t).nat * W64 = t.nat + a.nat * b.toNat + m * pN := by
  unfold roundF
  simp only []
  have q0 := mac_w a.l0 b t.t0 0
  generalize macH a.l0 b t.t0 0 = c0 at *
  have q1 := mac_w a.l1 b t.t1 c0
  generalize macH a.l1 b t.t1 c0 = c1 at *
  have q2 := mac_w a.l2 b t.t2 c1
  generalize macH a.l2 b t.t2 c1 = c2 at *
  have q3 := mac_w a.l3 b t.t3 c2
  generalize macH a.l3 b t.t3 c2 = c3 at *
  have q4 := mac_w a.l4 b t.t4 c3
  generalize macH a.l4 b t.t4 c3 = c4 at *
  have q5 := mac_w a.l5 b t.t5 c4
  generalize macH a.l5 b t.t5 c4 = c5 at *
  have q6 := add_step t.t6 c5 false
  refine ⟨(macL a.l0 b t.t0 0 * pInv).toNat, UInt64.toNat_lt _, ?_⟩
  rw [roundB_nat]
  refine congrArg (fun z => z + (macL a.l0 b t.t0 0 * pInv).toNat * pN) ?_
  have e : a.nat * b.toNat = a.l0.toNat * b.toNat + W64 * (a.l1.toNat * b.toNat + W64 * (a.l2.toNat * b.toNat + W64 * (a.l3.toNat * b.toNat + W64 * (a.l4.toNat * b.toNat + W64 * (a.l5.toNat * b.toNat))))) := by
    unfold Fp.nat
    simp only [Nat.add_mul, Nat.mul_assoc]
  rw [e]
  have s6 : (addS t.t6 c5 false).toNat + W64 * (addC t.t6 c5 false).toNat = t.t6.toNat + c5.toNat := by simpa using q6
  have s5 := limb_step q5 s6
  have s4 := limb_step q4 s5
  have s3 := limb_step q3 s4
  have s2 := limb_step q2 s3
  have s1 := limb_step q1 s2
  have s0 := limb_step q0 s1
  rw [s0]
  have z : (0 : UInt64).toNat = 0 := rfl
  rw [z, L7.nat]
  generalize a.l0.toNat * b.toNat = x0 at *
  generalize a.l1.toNat * b.toNat = x1 at *
  generalize a.l2.toNat * b.toNat = x2 at *
  generalize a.l3.toNat * b.toNat = x3 at *
  generalize a.l4.toNat * b.toNat = x4 at *
  generalize a.l5.toNat * b.toNat = x5 at *
  rw [Nat.add_zero]
  exact zipS (zipS (zipS (zipS (zipS (zip0 _ _ _)))))
theorem round_bound {a : Fp} {b : UInt64} {t : L7} (h : t.nat < a.nat + pN) : (roundF a b t).nat < a.nat + pN := by
  obtain ⟨m, hm, e⟩ := roundF_nat a b t
  have hb := b.toNat_lt
  have h1 : a.nat * b.toNat ≤ a.nat * (W64 - 1) := Nat.mul_le_mul_left _ (by unfold W64; omega)
  have h2 : m * pN ≤ (W64 - 1) * pN := Nat.mul_le_mul_right _ (by omega)
  have h3 : (roundF a b t).nat * W64 < (a.nat + pN) * W64 := by
    rw [e]
    unfold W64 at *
    omega
  exact Nat.lt_of_mul_lt_mul_right h3
set_option maxRecDepth 100000 in
theorem halfT_nat (a b : Fp) : ∃ k : Nat, (halfT a b).nat * rN = a.nat * b.nat + k * pN ∧ (halfT a b).nat < a.nat + pN := by
  have hp0 : 0 < pN := by decide +kernel
  obtain ⟨m0, _, e0⟩ := roundF_nat a b.l0 ⟨0, 0, 0, 0, 0, 0, 0⟩
  obtain ⟨m1, _, e1⟩ := roundF_nat a b.l1 (half1 a b)
  obtain ⟨m2, _, e2⟩ := roundF_nat a b.l2 (half2 a b)
  obtain ⟨m3, _, e3⟩ := roundF_nat a b.l3 (half3 a b)
  obtain ⟨m4, _, e4⟩ := roundF_nat a b.l4 (half4 a b)
  obtain ⟨m5, _, e5⟩ := roundF_nat a b.l5 (half5 a b)
  have z : (L7.mk 0 0 0 0 0 0 0).nat = 0 := by decide +kernel
  have b0 : (half1 a b).nat < a.nat + pN := round_bound (by rw [z]; omega)
  have b1 : (half2 a b).nat < a.nat + pN := round_bound b0
  have b2 : (half3 a b).nat < a.nat + pN := round_bound b1
  have b3 : (half4 a b).nat < a.nat + pN := round_bound b2
  have b4 : (half5 a b).nat < a.nat + pN := round_bound b3
  refine ⟨m0 + W64 * (m1 + W64 * (m2 + W64 * (m3 + W64 * (m4 + W64 * m5)))), ?_, round_bound b4⟩
  rw [z] at e0
  change (half1 a b).nat * W64 = _ at e0
  change (half2 a b).nat * W64 = _ at e1
  change (half3 a b).nat * W64 = _ at e2
  change (half4 a b).nat * W64 = _ at e3
  change (half5 a b).nat * W64 = _ at e4
  change (halfT a b).nat * W64 = _ at e5
  have er : rN = W64 * (W64 * (W64 * (W64 * (W64 * W64)))) := by decide +kernel
  have eb : a.nat * b.nat = a.nat * b.l0.toNat + W64 * (a.nat * b.l1.toNat + W64 * (a.nat * b.l2.toNat + W64 * (a.nat * b.l3.toNat + W64 * (a.nat * b.l4.toNat + W64 * (a.nat * b.l5.toNat))))) := by
    rw [show b.nat = b.l0.toNat + W64 * (b.l1.toNat + W64 * (b.l2.toNat + W64 * (b.l3.toNat + W64 * (b.l4.toNat + W64 * b.l5.toNat)))) from rfl]
    simp only [Nat.mul_add, Nat.mul_left_comm a.nat W64]
  have ek : (m0 + W64 * (m1 + W64 * (m2 + W64 * (m3 + W64 * (m4 + W64 * m5))))) * pN = m0 * pN + W64 * (m1 * pN + W64 * (m2 * pN + W64 * (m3 * pN + W64 * (m4 * pN + W64 * (m5 * pN))))) := by
    simp only [Nat.add_mul, Nat.mul_assoc]
  rw [er, eb, ek]
  have st : ∀ {t' t z R : Nat}, t' * W64 = t + z → ∀ s : Nat, t' * (W64 * s) = (t + z) * s := fun h s => by rw [← Nat.mul_assoc, h]
  rw [st (R := 0) (t := (half5 a b).nat) (z := a.nat * b.l5.toNat + m5 * pN) (by rw [e5, Nat.add_assoc])]
  rw [Nat.add_mul, st (R := 0) (t := (half4 a b).nat) (z := a.nat * b.l4.toNat + m4 * pN) (by rw [e4, Nat.add_assoc])]
  rw [Nat.add_mul _ _ (W64 * (W64 * (W64 * W64))), st (R := 0) (t := (half3 a b).nat) (z := a.nat * b.l3.toNat + m3 * pN) (by rw [e3, Nat.add_assoc])]
  rw [Nat.add_mul _ _ (W64 * (W64 * W64)), st (R := 0) (t := (half2 a b).nat) (z := a.nat * b.l2.toNat + m2 * pN) (by rw [e2, Nat.add_assoc])]
  rw [Nat.add_mul _ _ (W64 * W64), st (R := 0) (t := (half1 a b).nat) (z := a.nat * b.l1.toNat + m1 * pN) (by rw [e1, Nat.add_assoc])]
  rw [Nat.add_mul _ _ W64, e0]
  generalize a.nat * b.l0.toNat = x0
  generalize a.nat * b.l1.toNat = x1
  generalize a.nat * b.l2.toNat = x2
  generalize a.nat * b.l3.toNat = x3
  generalize a.nat * b.l4.toNat = x4
  generalize a.nat * b.l5.toNat = x5
  generalize m0 * pN = y0
  generalize m1 * pN = y1
  generalize m2 * pN = y2
  generalize m3 * pN = y3
  generalize m4 * pN = y4
  generalize m5 * pN = y5
  clear e0 e1 e2 e3 e4 e5 eb ek st
  unfold W64
  omega
theorem halfF_nat {a b : Fp} (ha : a.nat < pN) : (halfF a b).nat < pN ∧ ((halfF a b).nat * rN) % pN = (a.nat * b.nat) % pN := by
  obtain ⟨k, h1, h2⟩ := halfT_nat a b
  rw [L7.nat_low] at h1 h2
  have hlt := (halfT a b).low.nat_lt
  have hpr : 2 * pN < rN := by decide +kernel
  have hp0 : 0 < pN := by decide +kernel
  have h6 : (halfT a b).t6.toNat ≤ 1 := by
    rcases Nat.lt_or_ge (halfT a b).t6.toNat 1 with h | h
    · omega
    · have : rN * 1 ≤ rN * (halfT a b).t6.toNat := Nat.mul_le_mul_left _ h
      omega
  have h := lessF_nat (halfT a b).low (halfT a b).t6 h6 (by omega)
  have e : (halfF a b).nat = ((halfT a b).low.nat + rN * (halfT a b).t6.toNat) % pN := h
  rw [e]
  refine ⟨Nat.mod_lt _ hp0, ?_⟩
  rw [Nat.mod_mul_mod, h1, Nat.add_mul_mod_self_right]
end Go.Proofs.Ytchlamfdofpolaa
set_option linter.unusedSimpArgs false
set_option linter.unusedVariables false
namespace Go.Proofs.Ytchlamfdofpolaa
def rInv : Nat := 0x14fec701e8fb0ce9ed5e64273c4f538b1797ab1458a88de9343ea97914956dc87fe11274d898fafbf4d38259380b4820
theorem r_inv : rN * rInv % pN = 1 := by decide +kernel
theorem r_cancel {x y : Nat} (h : x * rN % pN = y * rN % pN) : x % pN = y % pN := by
  have e : ∀ z : Nat, z % pN = (z * rN % pN) * rInv % pN := by
    intro z
    rw [Nat.mod_mul_mod, Nat.mul_assoc, Nat.mul_mod, r_inv, Nat.mul_one, Nat.mod_mod]
  rw [e x, e y, h]
theorem sq_nat : sqLimbs.nat = rN * rN % pN := by decide +kernel
theorem one_nat : oneFp.nat = 1 := by decide +kernel
theorem zero_nat : zeroFp.nat = 0 := by decide +kernel
theorem pN_pos : 0 < pN := by decide +kernel
theorem wholeF_nat {a : Fp} (ha : a.nat < pN) : (wholeF a).nat = a.nat * rN % pN := by
  obtain ⟨h1, h2⟩ := halfF_nat (b := sqLimbs) ha
  have h3 : (wholeF a).nat * rN % pN = (a.nat * rN) * rN % pN := by
    rw [show (wholeF a).nat = (halfF a sqLimbs).nat from rfl, h2, sq_nat, Nat.mul_mod_mod, Nat.mul_assoc]
  rw [← r_cancel h3]
  exact (Nat.mod_eq_of_lt h1).symm
theorem lowF_nat {a : Fp} (ha : a.nat < pN) : (lowF a).nat < pN ∧ (lowF a).nat * rN % pN = a.nat := by
  obtain ⟨h1, h2⟩ := halfF_nat (b := oneFp) ha
  rw [one_nat, Nat.mul_one, Nat.mod_eq_of_lt ha] at h2
  exact ⟨h1, h2⟩
theorem mulF_nat {a b : Fp} (ha : a.nat < pN) : (mulF a b).nat = a.nat * b.nat % pN := by
  obtain ⟨h1, h2⟩ := halfF_nat (b := b) ha
  rw [show mulF a b = wholeF (halfF a b) from rfl, wholeF_nat h1, h2]
theorem mulF_lt {a b : Fp} (ha : a.nat < pN) : (mulF a b).nat < pN := by rw [mulF_nat ha]; exact Nat.mod_lt _ pN_pos
theorem addF_lt {a b : Fp} (ha : a.nat < pN) (hb : b.nat < pN) : (addF a b).nat < pN := by rw [addF_nat ha hb]; exact Nat.mod_lt _ pN_pos
theorem subF_lt {a b : Fp} (ha : a.nat < pN) (hb : b.nat < pN) : (subF a b).nat < pN := by rw [subF_nat ha hb]; exact Nat.mod_lt _ pN_pos
def eLow (e : List UInt64) : Nat → Nat
  | 0 => 0
  | n + 1 => eLow e n + (bitAt e n).toNat * 2 ^ n
theorem powAt_nat {x : Fp} {a : Nat} (e : List UInt64) (hx : x.nat = a * rN % pN) : ∀ (n : Nat) (o : Fp) (v : Nat), o.nat = v * rN % pN →
    (powAt x e n o).nat = v ^ 2 ^ n * a ^ eLow e n % pN
  | 0, o, v, ho => by
    have hlt : o.nat < pN := by rw [ho]; exact Nat.mod_lt _ pN_pos
    obtain ⟨h1, h2⟩ := lowF_nat hlt
    have h3 := r_cancel (h2.trans ho)
    simp only [powAt, eLow, Nat.pow_zero, Nat.pow_one, Nat.mul_one]
    rw [← h3]
    exact (Nat.mod_eq_of_lt h1).symm
  | n + 1, o, v, ho => by
    have hlt : o.nat < pN := by rw [ho]; exact Nat.mod_lt _ pN_pos
    have hmul : ∀ {p q : Fp} {s t : Nat}, p.nat = s * rN % pN → q.nat = t * rN % pN → (halfF p q).nat = (s * t) * rN % pN := by
      intro p q s t hp hq
      obtain ⟨h1, h2⟩ := halfF_nat (a := p) (b := q) (by rw [hp]; exact Nat.mod_lt _ pN_pos)
      have h3 : (halfF p q).nat * rN % pN = ((s * t) * rN) * rN % pN := by
        rw [h2, hp, hq, ← Nat.mul_mod]
        refine congrArg (fun z => z % pN) ?_
        simp only [Nat.mul_assoc, Nat.mul_left_comm, Nat.mul_comm]
      have h4 := r_cancel h3
      rw [← h4]
      exact (Nat.mod_eq_of_lt h1).symm
    have h1 := hmul ho ho
    simp only [powAt]
    cases hb : bitAt e n with
    | true =>
      simp only []
      rw [powAt_nat e hx n _ _ (hmul h1 hx)]
      simp only [eLow, hb, Bool.toNat_true, Nat.one_mul]
      refine congrArg (fun z => z % pN) ?_
      rw [Nat.mul_pow, ← Nat.pow_two, ← Nat.pow_mul, show 2 ^ (n + 1) = 2 * 2 ^ n by rw [Nat.pow_succ, Nat.mul_comm], Nat.pow_add a, Nat.mul_assoc, Nat.mul_comm (a ^ 2 ^ n)]
    | false =>
      simp only []
      rw [powAt_nat e hx n _ _ h1]
      simp only [eLow, hb, Bool.toNat_false, Nat.zero_mul, Nat.add_zero]
      refine congrArg (fun z => z % pN) ?_
      rw [← Nat.pow_two, ← Nat.pow_mul, show 2 ^ (n + 1) = 2 * 2 ^ n by rw [Nat.pow_succ, Nat.mul_comm]]
theorem powF_nat {a : Fp} (ha : a.nat < pN) (e : List UInt64) : (powF a e).nat = a.nat ^ eLow e (64 * e.length) % pN := by
  unfold powF
  have h1 : (1 : Nat) < pN := by decide +kernel
  rw [powAt_nat e (wholeF_nat ha) _ _ 1 (by rw [wholeF_nat (by rw [one_nat]; exact h1), one_nat])]
  rw [Nat.one_pow, Nat.one_mul]
end Go.Proofs.Ytchlamfdofpolaa
set_option linter.unusedSimpArgs false
set_option linter.unusedVariables false
namespace Go.Proofs.Ytchlamfdofpolaa
def IsPrime (p : Nat) : Prop := 1 < p ∧ ∀ d, d ∣ p → d = 1 ∨ d = p
theorem IsPrime.pos {p : Nat} (h : IsPrime p) : 0 < p := by have := h.1; omega
theorem IsPrime.coprime {p a : Nat} (h : IsPrime p) (ha : ¬ p ∣ a) : Nat.gcd p a = 1 := by
  rcases h.2 _ (Nat.gcd_dvd_left p a) with h1 | h1
  · exact h1
  · exact absurd (h1 ▸ Nat.gcd_dvd_right p a) ha
theorem IsPrime.dvd_mul {p a b : Nat} (h : IsPrime p) (hd : p ∣ a * b) : p ∣ a ∨ p ∣ b := by
  by_cases ha : p ∣ a
  · exact .inl ha
  · exact .inr (Nat.Coprime.dvd_of_dvd_mul_left (h.coprime ha) hd)
def ch : Nat → Nat → Nat
  | _, 0 => 1
  | 0, _ + 1 => 0
  | n + 1, k + 1 => ch n k + ch n (k + 1)
theorem ch_zero (n : Nat) : ch n 0 = 1 := by cases n <;> rfl
theorem ch_big : ∀ {n k : Nat}, n < k → ch n k = 0
  | 0, k + 1, _ => rfl
  | n + 1, k + 1, h => by simp only [ch]; rw [ch_big (by omega), ch_big (by omega)]
theorem ch_self : ∀ n : Nat, ch n n = 1
  | 0 => rfl
  | n + 1 => by simp only [ch]; rw [ch_self n, ch_big (by omega)]
theorem ch_mul : ∀ n k : Nat, (k + 1) * ch (n + 1) (k + 1) = (n + 1) * ch n k
  | 0, 0 => rfl
  | 0, k + 1 => by simp [ch]
  | n + 1, 0 => by
    have h := ch_mul n 0
    simp only [ch_zero, Nat.zero_add, Nat.one_mul, Nat.mul_one] at h ⊢
    show ch (n + 1) 0 + ch (n + 1) 1 = n + 1 + 1
    rw [ch_zero, h]
    omega
  | n + 1, j + 1 => by
    have h1 := ch_mul n j
    have h2 := ch_mul n (j + 1)
    have e : ch (n + 1) (j + 1) = ch n j + ch n (j + 1) := rfl
    show (j + 1 + 1) * (ch (n + 1) (j + 1) + ch (n + 1) (j + 1 + 1)) = (n + 1 + 1) * ch (n + 1) (j + 1)
    rw [Nat.mul_add, h2, Nat.succ_mul (j + 1), h1]
    rw [Nat.succ_mul (n + 1), e, Nat.mul_add]
    omega
def bs (a n : Nat) : Nat → Nat
  | 0 => 0
  | m + 1 => bs a n m + ch n m * a ^ m
theorem bs_step (a n : Nat) : ∀ m : Nat, bs a (n + 1) (m + 1) = bs a n (m + 1) + a * bs a n m
  | 0 => by simp [bs, ch_zero]
  | m + 1 => by
    have h := bs_step a n m
    show bs a (n + 1) (m + 1) + ch (n + 1) (m + 1) * a ^ (m + 1) = bs a n (m + 1) + ch n (m + 1) * a ^ (m + 1) + a * (bs a n m + ch n m * a ^ m)
    rw [h, show ch (n + 1) (m + 1) = ch n m + ch n (m + 1) from rfl, Nat.add_mul, Nat.mul_add, Nat.pow_succ]
    have : ch n m * (a ^ m * a) = a * (ch n m * a ^ m) := by rw [← Nat.mul_assoc, Nat.mul_comm]
    omega
theorem binom (a : Nat) : ∀ n : Nat, (a + 1) ^ n = bs a n (n + 1)
  | 0 => by simp [bs, ch]
  | n + 1 => by
    rw [bs_step a n (n + 1), show bs a n (n + 1 + 1) = bs a n (n + 1) + ch n (n + 1) * a ^ (n + 1) from rfl, ch_big (Nat.lt_succ_self n), Nat.zero_mul, Nat.add_zero, ← binom a n, Nat.pow_succ, Nat.mul_add, Nat.mul_one, Nat.mul_comm a]
    omega
theorem ch_prime {p k : Nat} (h : IsPrime p) (h0 : 0 < k) (hk : k < p) : p ∣ ch p k := by
  obtain ⟨j, rfl⟩ : ∃ j, k = j + 1 := ⟨k - 1, by omega⟩
  obtain ⟨n, rfl⟩ : ∃ n, p = n + 1 := ⟨p - 1, by omega⟩
  have hd : n + 1 ∣ (j + 1) * ch (n + 1) (j + 1) := ⟨ch n j, ch_mul n j⟩
  rcases h.dvd_mul hd with h1 | h1
  · exact absurd (Nat.le_of_dvd (by omega) h1) (by omega)
  · exact h1
theorem bs_prime {p : Nat} (h : IsPrime p) (a : Nat) : ∀ m : Nat, m < p → bs a p (m + 1) % p = 1
  | 0, _ => by
    simp only [bs, ch_zero, Nat.pow_zero, Nat.mul_one, Nat.zero_add]
    exact Nat.mod_eq_of_lt h.1
  | m + 1, hm => by
    have ih := bs_prime h a m (by omega)
    obtain ⟨c, hc⟩ := ch_prime h (Nat.succ_pos m) hm
    show (bs a p (m + 1) + ch p (m + 1) * a ^ (m + 1)) % p = 1
    rw [hc, Nat.mul_assoc, Nat.add_mul_mod_self_left]
    exact ih
theorem fermat_a {p : Nat} (h : IsPrime p) : ∀ a : Nat, a ^ p % p = a % p
  | 0 => by
    have := h.pos
    rw [Nat.zero_pow this]
  | a + 1 => by
    have ih := fermat_a h a
    have hp := h.1
    obtain ⟨n, rfl⟩ : ∃ n, p = n + 1 := ⟨p - 1, by omega⟩
    rw [binom a (n + 1), show bs a (n + 1) (n + 1 + 1) = bs a (n + 1) (n + 1) + ch (n + 1) (n + 1) * a ^ (n + 1) from rfl, ch_self, Nat.one_mul, Nat.add_mod, bs_prime h a n (by omega), ih]
    rw [Nat.add_mod a 1, Nat.mod_eq_of_lt hp, Nat.add_comm]
theorem fermat {p a : Nat} (h : IsPrime p) (ha : ¬ p ∣ a) : a ^ (p - 1) % p = 1 := by
  have hp := h.1
  have h1 := fermat_a h a
  obtain ⟨n, rfl⟩ : ∃ n, p = n + 1 := ⟨p - 1, by omega⟩
  rw [Nat.add_sub_cancel]
  have h0 : 0 < a := Nat.pos_of_ne_zero (by rintro rfl; exact ha ⟨0, rfl⟩)
  have hle : a ≤ a ^ (n + 1) := Nat.le_self_pow (by omega) a
  have hd : n + 1 ∣ a ^ (n + 1) - a := Nat.dvd_of_mod_eq_zero (Nat.sub_mod_eq_zero_of_mod_eq h1)
  have h2 : 1 ≤ a ^ n := Nat.one_le_pow _ _ h0
  have e : a ^ (n + 1) - a = a * (a ^ n - 1) := by rw [Nat.pow_succ, Nat.mul_sub, Nat.mul_one, Nat.mul_comm]
  rw [e] at hd
  rcases h.dvd_mul hd with h3 | h3
  · exact absurd h3 ha
  · obtain ⟨c, hc⟩ := h3
    rw [show a ^ n = (n + 1) * c + 1 by omega, Nat.mul_add_mod]
    exact Nat.mod_eq_of_lt hp
theorem exists_prime_dvd : ∀ n : Nat, 1 < n → ∃ p, IsPrime p ∧ p ∣ n := by
  intro n
  induction n using Nat.strongRecOn with
  | ind n ih =>
    intro hn
    by_cases h : IsPrime n
    · exact ⟨n, h, Nat.dvd_refl n⟩
    · have : ∃ d, d ∣ n ∧ d ≠ 1 ∧ d ≠ n := by
        apply Classical.byContradiction
        intro hc
        refine h ⟨hn, fun d hd => ?_⟩
        by_cases h1 : d = 1
        · exact .inl h1
        · by_cases h2 : d = n
          · exact .inr h2
          · exact absurd ⟨d, hd, h1, h2⟩ hc
      obtain ⟨d, hd, h1, h2⟩ := this
      have hdn := Nat.le_of_dvd (by omega) hd
      have hd0 : d ≠ 0 := by
        rintro rfl
        have := Nat.eq_zero_of_zero_dvd hd
        omega
      obtain ⟨p, hp, hpd⟩ := ih d (by omega) (by omega)
      exact ⟨p, hp, Nat.dvd_trans hpd hd⟩
theorem pow_gcd {d b : Nat} (hd : 1 < d) : ∀ m n : Nat, b ^ m % d = 1 → b ^ n % d = 1 → b ^ Nat.gcd m n % d = 1 := by
  intro m n
  induction m, n using Nat.gcd.induction with
  | H0 n => intro _ h; rw [Nat.gcd_zero_left]; exact h
  | H1 m n hm ih =>
    intro h1 h2
    rw [Nat.gcd_rec]
    refine ih ?_ h1
    have e : b ^ n % d = (b ^ m) ^ (n / m) * b ^ (n % m) % d := by rw [← Nat.pow_mul, ← Nat.pow_add, Nat.div_add_mod]
    rw [h2, Nat.mul_mod, Nat.pow_mod, h1, Nat.one_pow, Nat.mod_eq_of_lt hd, Nat.one_mul, Nat.mod_mod] at e
    exact e.symm
theorem pock_key {n q r a : Nat} (hn : n = q * r + 1) (hq : IsPrime q) (hr : 0 < r) (h1 : a ^ (q * r) % n = 1) (h2 : Nat.gcd (a ^ r % n + (n - 1)) n = 1) {d : Nat} (hd : IsPrime d) (hdn : d ∣ n) : q ∣ d - 1 := by
  have hq1 := hq.1
  have hn1 : 1 < n := by
    have : 0 < q * r := Nat.mul_pos (by omega) hr
    omega
  have hd1 := hd.1
  have hb : (a ^ r) ^ q % d = 1 := by
    rw [← Nat.pow_mul, Nat.mul_comm r q]
    have : a ^ (q * r) % n % d = a ^ (q * r) % d := Nat.mod_mod_of_dvd _ hdn
    rw [← this, h1, Nat.mod_eq_of_lt hd1]
  have hnd : ¬ d ∣ a ^ r := by
    intro h
    obtain ⟨c, hc⟩ := h
    rw [hc, Nat.mul_pow, Nat.mul_mod] at hb
    have : d ^ q % d = 0 := by
      obtain ⟨k, rfl⟩ : ∃ k, q = k + 1 := ⟨q - 1, by omega⟩
      rw [Nat.pow_succ, Nat.mul_mod_left]
    rw [this] at hb
    simp at hb
  have hf := fermat hd hnd
  have hne : a ^ r % d ≠ 1 := by
    intro h
    have hdd : d ∣ a ^ r % n + (n - 1) := by
      have e : (a ^ r % n) % d = 1 := by rw [Nat.mod_mod_of_dvd _ hdn]; exact h
      have e2 : (a ^ r % n + (n - 1) + 1) % d = 1 := by
        rw [show a ^ r % n + (n - 1) + 1 = a ^ r % n + n by omega, Nat.add_mod, e]
        obtain ⟨c, hc⟩ := hdn
        rw [hc, Nat.mul_mod_right, Nat.add_zero, Nat.mod_eq_of_lt hd1]
      have e3 := Nat.sub_mod_eq_zero_of_mod_eq (e2.trans (Nat.mod_eq_of_lt hd1).symm)
      rw [Nat.add_sub_cancel] at e3
      exact Nat.dvd_of_mod_eq_zero e3
    have := Nat.dvd_gcd hdd hdn
    rw [h2] at this
    have := Nat.le_of_dvd (by omega) this
    omega
  apply Classical.byContradiction
  intro hc
  have hg := hq.coprime hc
  have := pow_gcd hd1 q (d - 1) hb hf
  rw [hg, Nat.pow_one] at this
  exact hne this
theorem pocklington {n q r a K : Nat} (hn : n = q * r + 1) (hq : IsPrime q) (hr : 0 < r) (hK : ∀ k, k < K → ¬ (q * (k + 1) + 1) ∣ n) (hqq : n < (q * (K + 1) + 1) * (q * (K + 1) + 1)) (h1 : a ^ (q * r) % n = 1) (h2 : Nat.gcd (a ^ r % n + (n - 1)) n = 1) : IsPrime n := by
  have hq1 := hq.1
  have hn1 : 1 < n := by
    have : 0 < q * r := Nat.mul_pos (by omega) hr
    omega
  refine ⟨hn1, fun x hx => ?_⟩
  have key : ∀ d, IsPrime d → d ∣ n → q * (K + 1) + 1 ≤ d := by
    intro d hd hdn
    obtain ⟨c, hc⟩ := pock_key hn hq hr h1 h2 hd hdn
    have hd1 := hd.1
    have hdc : d = q * c + 1 := by omega
    rcases Nat.lt_or_ge K c with h | h
    · have := Nat.mul_le_mul_left q (show K + 1 ≤ c from h)
      omega
    · have hc0 : c ≠ 0 := by rintro rfl; omega
      obtain ⟨k, rfl⟩ : ∃ k, c = k + 1 := ⟨c - 1, by omega⟩
      exact absurd (hdc ▸ hdn) (hK k (by omega))
  by_cases hx1 : x = 1
  · exact .inl hx1
  · right
    obtain ⟨y, hy⟩ := hx
    have hx0 : x ≠ 0 := by rintro rfl; omega
    by_cases hy1 : y = 1
    · subst hy1; omega
    · have hy0 : y ≠ 0 := by rintro rfl; omega
      obtain ⟨d, hd, hdx⟩ := exists_prime_dvd x (by omega)
      obtain ⟨e, he, hey⟩ := exists_prime_dvd y (by omega)
      have k1 := key d hd (Nat.dvd_trans hdx ⟨y, hy⟩)
      have k2 := key e he (Nat.dvd_trans hey ⟨x, by rw [hy, Nat.mul_comm]⟩)
      have l1 := Nat.le_of_dvd (by omega) hdx
      have l2 := Nat.le_of_dvd (by omega) hey
      have := Nat.mul_le_mul (show q * (K + 1) + 1 ≤ x by omega) (show q * (K + 1) + 1 ≤ y by omega)
      omega
end Go.Proofs.Ytchlamfdofpolaa
set_option linter.unusedSimpArgs false
set_option linter.unusedVariables false
namespace Go.Proofs.Ytchlamfdofpolaa
def mpow : Nat → Nat → Nat → Nat → Nat
  | 0, _, _, n => 1 % n
  | k + 1, a, e, n => match Nat.beq e 0 with
    | true => 1 % n
    | false => match Nat.beq (e % 2) 1 with
      | true => a * mpow k (a * a % n) (e / 2) n % n
      | false => mpow k (a * a % n) (e / 2) n
theorem mpow_eq (n : Nat) : ∀ (k a e : Nat), e < 2 ^ k → mpow k a e n = a ^ e % n
  | 0, a, e, h => by
    obtain rfl : e = 0 := by simpa using h
    rfl
  | k + 1, a, e, h => by
    unfold mpow
    cases h0 : Nat.beq e 0 with
    | true =>
      have := Nat.eq_of_beq_eq_true h0
      subst this
      rfl
    | false =>
      have hlt : e / 2 < 2 ^ k := by rw [Nat.pow_succ] at h; omega
      have ih := mpow_eq n k (a * a % n) (e / 2) hlt
      have e1 : (a * a % n) ^ (e / 2) % n = a ^ (2 * (e / 2)) % n := by rw [← Nat.pow_mod, ← Nat.pow_two, ← Nat.pow_mul]
      cases h1 : Nat.beq (e % 2) 1 with
      | true =>
        have h1 := Nat.eq_of_beq_eq_true h1
        simp only []
        rw [ih, e1, Nat.mul_mod_mod]
        refine congrArg (fun z => z % n) ?_
        rw [show a ^ e = a ^ (2 * (e / 2) + 1) by congr 1; omega, Nat.pow_succ, Nat.mul_comm]
      | false =>
        have h1 := Nat.ne_of_beq_eq_false h1
        simp only []
        rw [ih, e1]
        refine congrArg (fun z => a ^ z % n) ?_
        omega
theorem pock {n q r a k : Nat} (K : Nat) (hn : n = q * r + 1) (hq : IsPrime q) (hr : 0 < r) (hK : ∀ k, k < K → ¬ (q * (k + 1) + 1) ∣ n) (hqq : n < (q * (K + 1) + 1) * (q * (K + 1) + 1)) (hk : q * r < 2 ^ k) (h1 : mpow k a (q * r) n = 1) (h2 : Nat.gcd (mpow k a r n + (n - 1)) n = 1) : IsPrime n := by
  have hrq : r < 2 ^ k := Nat.lt_of_le_of_lt (Nat.le_mul_of_pos_left r (by have := hq.1; omega)) hk
  rw [mpow_eq n k a _ hk] at h1
  rw [mpow_eq n k a _ hrq] at h2
  exact pocklington hn hq hr hK hqq h1 h2
def noDiv (n : Nat) : Nat → Nat → Bool
  | 0, _ => true
  | k + 1, d => match Nat.beq (n % d) 0 with
    | true => false
    | false => noDiv n k (d + 1)
theorem noDiv_spec {n : Nat} : ∀ {k d : Nat}, noDiv n k d = true → ∀ x, d ≤ x → x < d + k → ¬ x ∣ n
  | 0, d, _, x, h1, h2 => by omega
  | k + 1, d, h, x, h1, h2 => by
    simp only [noDiv] at h
    split at h
    · cases h
    · rename_i hb
      have hb := Nat.ne_of_beq_eq_false hb
      rcases Nat.lt_or_ge d x with hlt | hge
      · exact noDiv_spec h x hlt (by omega)
      · obtain rfl : x = d := by omega
        exact fun hd => hb (Nat.mod_eq_zero_of_dvd hd)
theorem prime_of_noDiv {n k : Nat} (hn : 1 < n) (h : noDiv n k 2 = true) (hk : n < (k + 2) * (k + 2)) : IsPrime n := by
  refine ⟨hn, fun d hd => ?_⟩
  obtain ⟨y, hy⟩ := hd
  have hd0 : d ≠ 0 := by rintro rfl; omega
  have hy0 : y ≠ 0 := by rintro rfl; omega
  by_cases h1 : d = 1
  · exact .inl h1
  · right
    by_cases h2 : y = 1
    · subst h2; omega
    · have k1 : k + 2 ≤ d := by
        rcases Nat.lt_or_ge d (2 + k) with hl | hl
        · exact absurd ⟨y, hy⟩ (noDiv_spec h d (by omega) hl)
        · omega
      have k2 : k + 2 ≤ y := by
        rcases Nat.lt_or_ge y (2 + k) with hl | hl
        · exact absurd ⟨d, by rw [hy, Nat.mul_comm]⟩ (noDiv_spec h y (by omega) hl)
        · omega
      have := Nat.mul_le_mul k1 k2
      omega
theorem prime_u : IsPrime 421987 := prime_of_noDiv (k := 700) (by decide) (by decide +kernel) (by decide)
theorem prime_t : IsPrime 13090036741 := pock 0 (q := 421987) (r := 31020) (a := 2) (k := 34) (by decide) prime_u (by decide) (fun k h => absurd h (by omega)) (by decide) (by decide) (by decide +kernel) (by decide +kernel)
theorem prime_s : IsPrime 3819663927398918131021 := pock 4 (q := 13090036741) (r := 291799328220) (a := 2) (k := 72) (by decide) prime_t (by decide) (by decide +kernel) (by decide +kernel) (by decide +kernel) (by decide +kernel) (by decide +kernel)
theorem prime_r : IsPrime 1125266252156850182658904441386709967 := pock 0 (q := 3819663927398918131021) (r := 294598235223046) (a := 2) (k := 120) (by decide +kernel) prime_s (by decide) (fun k h => absurd h (by omega)) (by decide +kernel) (by decide +kernel) (by decide +kernel) (by decide +kernel)
theorem prime_q : IsPrime 15778400344354997994418419698270088123916926905054652752758194827714659 := pock 0 (q := 1125266252156850182658904441386709967) (r := 14021926201120671579994175730661374) (a := 2) (k := 234) (by decide +kernel) prime_r (by decide +kernel) (fun k h => absurd h (by omega)) (by decide +kernel) (by decide +kernel) (by decide +kernel) (by decide +kernel)
theorem prime_p : IsPrime pN := pock 0 (q := 15778400344354997994418419698270088123916926905054652752758194827714659) (r := 253663835868735594330404923636534084567099854) (a := 2) (k := 381) (by decide +kernel) prime_q (by decide +kernel) (fun k h => absurd h (by omega)) (by decide +kernel) (by decide +kernel) (by decide +kernel) (by decide +kernel)
end Go.Proofs.Ytchlamfdofpolaa
set_option linter.unusedSimpArgs false
set_option linter.unusedVariables false
namespace Go.Proofs.Ytchlamfdofpolaa
def valAt (xs : List UInt64) : Nat → Nat
  | 0 => 0
  | n + 1 => valAt xs n + (atF xs n).toNat * W64 ^ n
theorem valAt_lt (xs : List UInt64) : ∀ n, valAt xs n < W64 ^ n
  | 0 => by simp [valAt]
  | n + 1 => by
    have ih := valAt_lt xs n
    have h := (atF xs n).toNat_lt
    have h1 : (atF xs n).toNat * W64 ^ n ≤ (W64 - 1) * W64 ^ n := Nat.mul_le_mul_right _ (by unfold W64; omega)
    have h2 : W64 ^ (n + 1) = (W64 - 1) * W64 ^ n + W64 ^ n := by
      rw [Nat.pow_succ, Nat.mul_comm, Nat.sub_mul, Nat.one_mul]
      have : W64 ^ n ≤ W64 * W64 ^ n := Nat.le_mul_of_pos_left _ (by unfold W64; omega)
      omega
    simp only [valAt]
    omega
theorem val_step {x y p q : Nat} {w a b : Nat} (hp : p < w) (hq : q < w) : a < b → p + a * w < q + b * w := by
  intro h
  have : (a + 1) * w ≤ b * w := Nat.mul_le_mul_right _ h
  rw [Nat.add_mul, Nat.one_mul] at this
  omega
theorem cmpAt_val (xs ys : List UInt64) : ∀ n, cmpAt xs ys n = if valAt xs n < valAt ys n then -1 else if valAt xs n > valAt ys n then 1 else 0
  | 0 => by simp [cmpAt, valAt]
  | n + 1 => by
    have ih := cmpAt_val xs ys n
    have h1 := valAt_lt xs n
    have h2 := valAt_lt ys n
    have e1 : valAt xs (n + 1) = valAt xs n + (atF xs n).toNat * W64 ^ n := rfl
    have e2 : valAt ys (n + 1) = valAt ys n + (atF ys n).toNat * W64 ^ n := rfl
    rw [e1, e2]
    show (if atF xs n < atF ys n then -1 else if atF xs n > atF ys n then 1 else cmpAt xs ys n) = _
    by_cases ha : atF xs n < atF ys n
    · have := UInt64.lt_iff_toNat_lt.1 ha
      have := val_step (x := 0) (y := 0) h1 h2 this
      rw [if_pos ha, if_pos this]
    · rw [if_neg ha]
      by_cases hb : atF xs n > atF ys n
      · have := UInt64.lt_iff_toNat_lt.1 hb
        have := val_step (x := 0) (y := 0) h2 h1 this
        rw [if_pos hb, if_neg (by omega), if_pos this]
      · rw [if_neg hb, ih]
        have e : (atF xs n).toNat = (atF ys n).toNat := by
          have h3 := mt UInt64.lt_iff_toNat_lt.2 ha
          have h4 := mt UInt64.lt_iff_toNat_lt.2 hb
          omega
        rw [e]
        simp only [Nat.add_lt_add_iff_right, gt_iff_lt]
theorem list_val (a : Fp) : valAt a.list 6 = a.nat := by
  simp only [valAt, atF, Fp.list, Fp.nat, List.getD_eq_getElem?_getD, List.getElem?_cons_zero, List.getElem?_cons_succ, Option.getD_some]
  generalize a.l0.toNat = x0
  generalize a.l1.toNat = x1
  generalize a.l2.toNat = x2
  generalize a.l3.toNat = x3
  generalize a.l4.toNat = x4
  generalize a.l5.toNat = x5
  simp only [Nat.pow_succ, Nat.pow_zero, Nat.one_mul, Nat.mul_one, Nat.mul_add, Nat.mul_assoc, Nat.mul_comm, Nat.mul_left_comm, Nat.zero_add]
  omega
theorem cmp_nat (a b : Fp) : cmpF a.list b.list = if a.nat < b.nat then -1 else if a.nat > b.nat then 1 else 0 := by
  have h : cmpF a.list b.list = cmpAt a.list b.list 6 := by
    unfold cmpF maxI
    rfl
  rw [h, cmpAt_val, list_val, list_val]
theorem mayF_nat (a : Fp) : mayF a = decide (a.nat < pN) := by
  unfold mayF
  rw [cmp_nat, pLimbs_nat]
  refine decide_eq_decide.2 ?_
  split
  · rename_i h; simp [h]
  · rename_i h
    simp only [h, iff_false]
    split <;> omega
def hN : Nat := pN / 2
theorem u64_ne {x y : UInt64} : (x != y) = true ↔ x.toNat ≠ y.toNat := by
  simp only [bne_iff_ne, ne_eq]
  exact ⟨fun h e => h (UInt64.toNat.inj e), fun h e => h (by rw [e])⟩
theorem belowF_nat (a m : Fp) : belowF a m = decide (a.nat < m.nat) := by
  have h0 := a.l0.toNat_lt
  have h1 := a.l1.toNat_lt
  have h2 := a.l2.toNat_lt
  have h3 := a.l3.toNat_lt
  have h4 := a.l4.toNat_lt
  have k0 := m.l0.toNat_lt
  have k1 := m.l1.toNat_lt
  have k2 := m.l2.toNat_lt
  have k3 := m.l3.toNat_lt
  have k4 := m.l4.toNat_lt
  have same : ∀ {x y : UInt64}, (x != y) = false → x.toNat = y.toNat := fun h => by
    simp only [bne_eq_false_iff_eq] at h
    rw [h]
  unfold belowF
  cases e5 : a.l5 != m.l5 with
  | true =>
    have := u64_ne.1 e5
    refine decide_eq_decide.2 ?_
    rw [UInt64.lt_iff_toNat_lt]
    unfold Fp.nat W64
    omega
  | false =>
    have e5 := same e5
    simp only []
    cases e4 : a.l4 != m.l4 with
    | true =>
      have := u64_ne.1 e4
      refine decide_eq_decide.2 ?_
      rw [UInt64.lt_iff_toNat_lt]
      unfold Fp.nat W64
      omega
    | false =>
      have e4 := same e4
      simp only []
      cases e3 : a.l3 != m.l3 with
      | true =>
        have := u64_ne.1 e3
        refine decide_eq_decide.2 ?_
        rw [UInt64.lt_iff_toNat_lt]
        unfold Fp.nat W64
        omega
      | false =>
        have e3 := same e3
        simp only []
        cases e2 : a.l2 != m.l2 with
        | true =>
          have := u64_ne.1 e2
          refine decide_eq_decide.2 ?_
          rw [UInt64.lt_iff_toNat_lt]
          unfold Fp.nat W64
          omega
        | false =>
          have e2 := same e2
          simp only []
          cases e1 : a.l1 != m.l1 with
          | true =>
            have := u64_ne.1 e1
            refine decide_eq_decide.2 ?_
            rw [UInt64.lt_iff_toNat_lt]
            unfold Fp.nat W64
            omega
          | false =>
            have e1 := same e1
            simp only []
            cases e0 : a.l0 != m.l0 with
            | true =>
              have := u64_ne.1 e0
              refine decide_eq_decide.2 ?_
              rw [UInt64.lt_iff_toNat_lt]
              unfold Fp.nat W64
              omega
            | false =>
              have e0 := same e0
              refine (decide_eq_false ?_).symm
              unfold Fp.nat W64
              omega
theorem fpEq_nat (a b : Fp) : fpEq a b = decide (a.nat = b.nat) := by
  by_cases h : a = b
  · subst h; rw [(fpEq_iff a a).2 rfl]; simp
  · have h1 : fpEq a b = false := by
      cases e : fpEq a b with
      | true => exact absurd ((fpEq_iff a b).1 e) h
      | false => rfl
    rw [h1]
    exact (decide_eq_false fun e => h (Fp.nat_inj e)).symm
end Go.Proofs.Ytchlamfdofpolaa
set_option linter.unusedSimpArgs false
set_option linter.unusedVariables false
namespace Go.Proofs.Ytchlamfdofpolaa
theorem of_nat (n : UInt64) : (ofF n).nat = n.toNat := by
  unfold ofF Fp.nat
  simp only [show (0 : UInt64).toNat = 0 from rfl, Nat.mul_zero, Nat.add_zero]
theorem invE : eLow [pLimbs.l0 - 2, pLimbs.l1, pLimbs.l2, pLimbs.l3, pLimbs.l4, pLimbs.l5] (64 * 6) = pN - 2 := by decide +kernel
theorem not_dvd {a : Nat} (h : a < pN) (h0 : a ≠ 0) : ¬ pN ∣ a := fun hd => absurd (Nat.le_of_dvd (by omega) hd) (by omega)
theorem two_lt : 2 < pN := by decide +kernel
theorem inv_law {x : Fp} (hx : x.nat < pN) : (x.nat = 0 → (invF x).2 = 7) ∧ (x.nat ≠ 0 → (invF x).2 = 0 ∧ (invF x).1.nat < pN ∧ x.nat * (invF x).1.nat % pN = 1) := by
  unfold invF
  rw [fpEq_nat, zero_nat]
  refine ⟨fun h => ?_, fun h => ?_⟩
  · rw [decide_eq_true h]
  · rw [decide_eq_false h]
    simp only []
    have e : (powF x [pLimbs.l0 - 2, pLimbs.l1, pLimbs.l2, pLimbs.l3, pLimbs.l4, pLimbs.l5]).nat = x.nat ^ (pN - 2) % pN := by
      rw [powF_nat hx, show 64 * [pLimbs.l0 - 2, pLimbs.l1, pLimbs.l2, pLimbs.l3, pLimbs.l4, pLimbs.l5].length = 64 * 6 from rfl, invE]
    refine ⟨trivial, by rw [e]; exact Nat.mod_lt _ pN_pos, ?_⟩
    rw [e, Nat.mul_mod_mod]
    have h2 := two_lt
    have : x.nat * x.nat ^ (pN - 2) = x.nat ^ (pN - 1) := by rw [show pN - 1 = (pN - 2) + 1 by omega, Nat.pow_succ, Nat.mul_comm]
    rw [this]
    exact fermat prime_p (not_dvd hx h)
end Go.Proofs.Ytchlamfdofpolaa

set_option linter.unusedSimpArgs false
set_option linter.unusedVariables false
namespace Go.Proofs.Ytchlamfdofpolaa
instance : NeZero pN := ⟨by decide +kernel⟩
def V1 : Type := Fin pN
def V1.of (n : Nat) : V1 := Fin.ofNat pN n
def V1.nat (a : V1) : Nat := Fin.val a
theorem V1.nat_lt (a : V1) : a.nat < pN := Fin.isLt a
theorem V1.nat_of (n : Nat) : (V1.of n).nat = n % pN := rfl
theorem V1.ext {a b : V1} (h : a.nat = b.nat) : a = b := Fin.eq_of_val_eq h
theorem V1.of_nat (a : V1) : V1.of a.nat = a := V1.ext (by rw [V1.nat_of, Nat.mod_eq_of_lt a.nat_lt])
def V1.add (a b : V1) : V1 := V1.of (a.nat + b.nat)
def V1.mul (a b : V1) : V1 := V1.of (a.nat * b.nat)
def V1.neg (a : V1) : V1 := V1.of (pN - a.nat)
def V1.sub (a b : V1) : V1 := V1.of (a.nat + (pN - b.nat))
def V1.inv (a : V1) : V1 := V1.of (mpow 381 a.nat (pN - 2) pN)
theorem one_lt_p : 1 < pN := by decide +kernel
theorem V1.one_mod : 1 % pN = 1 := Nat.mod_eq_of_lt one_lt_p
instance : CR V1 where
  add := V1.add
  mul := V1.mul
  neg := V1.neg
  sub := V1.sub
  z := V1.of 0
  o := V1.of 1
  add_zero := fun a => V1.ext (by show (a.nat + 0 % pN) % pN = a.nat; rw [Nat.zero_mod, Nat.add_zero, Nat.mod_eq_of_lt a.nat_lt])
  add_comm := fun a b => V1.ext (by show (a.nat + b.nat) % pN = (b.nat + a.nat) % pN; rw [Nat.add_comm])
  add_assoc := fun a b c => V1.ext (by show ((a.nat + b.nat) % pN + c.nat) % pN = (a.nat + (b.nat + c.nat) % pN) % pN; rw [Nat.mod_add_mod, Nat.add_mod_mod, Nat.add_assoc])
  mul_assoc := fun a b c => V1.ext (by show ((a.nat * b.nat) % pN * c.nat) % pN = (a.nat * ((b.nat * c.nat) % pN)) % pN; rw [Nat.mod_mul_mod, Nat.mul_mod_mod, Nat.mul_assoc])
  mul_comm := fun a b => V1.ext (by show (a.nat * b.nat) % pN = (b.nat * a.nat) % pN; rw [Nat.mul_comm])
  mul_one := fun a => V1.ext (by show (a.nat * (1 % pN)) % pN = a.nat; rw [V1.one_mod, Nat.mul_one, Nat.mod_eq_of_lt a.nat_lt])
  dist := fun a b c => V1.ext (by
    show (a.nat * ((b.nat + c.nat) % pN)) % pN = ((a.nat * b.nat) % pN + (a.nat * c.nat) % pN) % pN
    rw [Nat.mul_mod_mod, ← Nat.add_mod, Nat.mul_add])
  neg_add := fun a => V1.ext (by
    show ((pN - a.nat) % pN + a.nat) % pN = 0 % pN
    rw [Nat.mod_add_mod, Nat.sub_add_cancel (Nat.le_of_lt a.nat_lt), Nat.mod_self, Nat.zero_mod])
  sub_eq := fun a b => V1.ext (by
    show (a.nat + (pN - b.nat)) % pN = (a.nat + (pN - b.nat) % pN) % pN
    rw [Nat.add_mod_mod])
theorem V1.nat_add (a b : V1) : (a + b).nat = (a.nat + b.nat) % pN := rfl
theorem V1.nat_mul (a b : V1) : (a * b).nat = (a.nat * b.nat) % pN := rfl
theorem V1.nat_zero : (0 : V1).nat = 0 := Nat.zero_mod _
theorem V1.nat_one : (1 : V1).nat = 1 := V1.one_mod
theorem V1.nat_pow (a : V1) : ∀ n : Nat, (a ^ n).nat = a.nat ^ n % pN
  | 0 => rfl
  | n + 1 => by rw [pow_succ', V1.nat_mul, V1.nat_pow a n, Nat.mod_mul_mod, Nat.pow_succ]
theorem V1.ne_zero {a : V1} (h : a ≠ 0) : a.nat ≠ 0 := fun e => h (V1.ext (by rw [e, V1.nat_zero]))
theorem V1.fermat {a : V1} (h : a ≠ 0) : a ^ (pN - 1) = 1 := V1.ext (by
  rw [V1.nat_pow, V1.nat_one]
  exact Go.Proofs.Ytchlamfdofpolaa.fermat prime_p (not_dvd a.nat_lt (V1.ne_zero h)))
theorem V1.inv_eq (a : V1) : V1.inv a = a ^ (pN - 2) := V1.ext (by
  show mpow 381 a.nat (pN - 2) pN % pN = _
  rw [mpow_eq pN 381 _ _ (by decide +kernel), V1.nat_pow, Nat.mod_mod])
instance : Fld V1 where
  inv := V1.inv
  mul_inv := fun a h => by
    rw [V1.inv_eq]
    have := V1.fermat h
    rw [show pN - 1 = (pN - 2) + 1 by have := two_lt; omega, pow_succ'] at this
    rw [CR.mul_comm]
    exact this
  one_ne := fun e => by
    have := congrArg V1.nat e
    rw [V1.nat_one, V1.nat_zero] at this
    omega
def Fp.ok (a : Fp) : Prop := a.nat < pN
def Fp.v (a : Fp) : V1 := V1.of a.nat
theorem Fp.v_nat {a : Fp} (h : a.ok) : a.v.nat = a.nat := Nat.mod_eq_of_lt h
theorem Fp.v_inj {a b : Fp} (ha : a.ok) (hb : b.ok) (h : a.v = b.v) : a = b := Fp.nat_inj (by rw [← Fp.v_nat ha, ← Fp.v_nat hb, h])
theorem add_ok' {a b : Fp} (ha : a.ok) (hb : b.ok) : (addF a b).ok := addF_lt ha hb
theorem sub_ok' {a b : Fp} (ha : a.ok) (hb : b.ok) : (subF a b).ok := subF_lt ha hb
theorem mul_ok' {a b : Fp} (ha : a.ok) : (mulF a b).ok := mulF_lt ha
theorem zero_ok' : zeroFp.ok := by unfold Fp.ok; rw [zero_nat]; exact pN_pos
theorem one_ok' : oneFp.ok := by unfold Fp.ok; rw [one_nat]; exact one_lt_p
theorem neg_ok' {a : Fp} (ha : a.ok) : (negF a).ok := sub_ok' zero_ok' ha
theorem v_zero : zeroFp.v = 0 := V1.ext (by rw [Fp.v_nat zero_ok', zero_nat, V1.nat_zero])
theorem v_one : oneFp.v = 1 := V1.ext (by rw [Fp.v_nat one_ok', one_nat, V1.nat_one])
theorem v_add {a b : Fp} (ha : a.ok) (hb : b.ok) : (addF a b).v = a.v + b.v := V1.ext (by
  rw [Fp.v_nat (add_ok' ha hb), addF_nat ha hb, V1.nat_add, Fp.v_nat ha, Fp.v_nat hb])
theorem v_mul {a b : Fp} (ha : a.ok) (hb : b.ok) : (mulF a b).v = a.v * b.v := V1.ext (by
  rw [Fp.v_nat (mul_ok' ha), mulF_nat ha, V1.nat_mul, Fp.v_nat ha, Fp.v_nat hb])
theorem v_sub {a b : Fp} (ha : a.ok) (hb : b.ok) : (subF a b).v = a.v - b.v := V1.ext (by
  rw [Fp.v_nat (sub_ok' ha hb), subF_nat ha hb]
  show _ = (a.v.nat + (pN - b.v.nat)) % pN
  rw [Fp.v_nat ha, Fp.v_nat hb]
  congr 1
  have : b.nat < pN := hb
  omega)
theorem v_neg {a : Fp} (ha : a.ok) : (negF a).v = - a.v := by
  rw [show negF a = subF zeroFp a from rfl, v_sub zero_ok' ha, v_zero]
  grind
end Go.Proofs.Ytchlamfdofpolaa
set_option linter.unusedSimpArgs false
set_option linter.unusedVariables false
namespace Go.Proofs.Ytchlamfdofpolaa
theorem half_exp2 : (pN - 1) / 2 + (pN - 1) / 2 = pN - 1 := by decide +kernel
theorem half_odd : (pN - 1) / 2 = 2 * ((pN - 3) / 4) + 1 := by decide +kernel
def V1.chi (a : V1) : V1 := a ^ ((pN - 1) / 2)
theorem chi_sq {a : V1} (h : a ≠ 0) : a.chi * a.chi = 1 := by
  unfold V1.chi
  rw [← pow_add', half_exp2]
  exact V1.fermat h
theorem chi_mul (a b : V1) : (a * b).chi = a.chi * b.chi := mul_pow' a b _
theorem neg_one_sq : (-1 : V1) * -1 = 1 := by grind
theorem chi_neg_one : (-1 : V1).chi = -1 := by
  unfold V1.chi
  rw [half_odd, pow_add', pow_mul', pow_one', pow_succ' _ 1, pow_one', neg_one_sq, one_pow']
  grind
theorem one_ne_neg : (1 : V1) ≠ -1 := fun e => by
  have := congrArg V1.nat e
  rw [V1.nat_one] at this
  have h2 : (-1 : V1).nat = (pN - 1 % pN) % pN := rfl
  rw [h2, V1.one_mod] at this
  have h3 := one_lt_p
  rw [Nat.mod_eq_of_lt (by omega)] at this
  have h4 := two_lt
  omega
theorem ofF_ok (n : UInt64) : (ofF n).ok := by
  unfold Fp.ok
  rw [of_nat]
  exact Nat.lt_trans n.toNat_lt (by decide +kernel)
theorem v_of (n : UInt64) : (ofF n).v = V1.of n.toNat := by unfold Fp.v; rw [of_nat]
theorem mayF_ok (a : Fp) : mayF a = true ↔ a.ok := by rw [mayF_nat]; exact decide_eq_true_iff
end Go.Proofs.Ytchlamfdofpolaa
set_option linter.unusedSimpArgs false
set_option linter.unusedVariables false
namespace Go.Proofs.Ytchlamfdofpolaa
theorem borrow_iff (a b : Fp) : (subT a b).2 = decide (a.nat < b.nat) := by
  have h := subT_nat a b
  have h1 := (subT a b).1.nat_lt
  cases e : (subT a b).2 with
  | true =>
    rw [e, Bool.toNat_true, Nat.mul_one] at h
    exact (decide_eq_true (by omega)).symm
  | false =>
    rw [e, Bool.toNat_false, Nat.mul_zero] at h
    exact (decide_eq_false (by omega)).symm
theorem lessF_eq (a : Fp) (o : UInt64) : lessF a o = match decide (o < b2u (decide (a.nat < pN))) with | true => a | false => (subT a pLimbs).1 := by
  have h := borrow_iff a pLimbs
  rw [pLimbs_nat] at h
  unfold lessF
  rw [lessT_eq, h]
  all_goals rfl
theorem montE7_eq (t : L7) (h6 : t.t6.toNat ≤ 1) : montE7 pLimbs t = lessF t.low t.t6 := by
  rw [lessF_eq]
  unfold montE7
  rw [belowF_nat, pLimbs_nat]
  by_cases h : t.t6.toNat = 0
  · have e0 : t.t6 = 0 := UInt64.toNat.inj h
    rw [e0]
    by_cases hl : t.low.nat < pN
    · rw [decide_eq_true hl]; rfl
    · rw [decide_eq_false hl]; rfl
  · have e0 : t.t6 = 1 := UInt64.toNat.inj (by rw [UInt64.toNat_one]; omega)
    rw [e0]
    by_cases hl : t.low.nat < pN
    · rw [decide_eq_true hl]; rfl
    · rw [decide_eq_false hl]; rfl
theorem macL_comm (x y t c : UInt64) : macL x y t c = macL y x t c := by unfold macL; rw [UInt64.mul_comm]
theorem mulHi_comm (x y : UInt64) : mulHi x y = mulHi y x := UInt64.toNat.inj (by rw [mulHi_nat, mulHi_nat, Nat.mul_comm])
theorem macH_comm (x y t c : UInt64) : macH x y t c = macH y x t c := by unfold macH; rw [UInt64.mul_comm, mulHi_comm]
theorem montB_eq (t0 t1 t2 t3 t4 t5 top : UInt64) (more : Bool) : montB pLimbs pInv t0 t1 t2 t3 t4 t5 top more = roundB t0 t1 t2 t3 t4 t5 top more := by
  unfold montB roundB
  simp only [rmL_eq, rmH_eq, addC_comm t0]
theorem montR_eq (ai : UInt64) (b : Fp) (t : L7) : montR pLimbs pInv ai b t = roundF b ai t := by
  unfold montR roundF
  rw [montB_eq]
  simp only [rmL_eq, rmH_eq, macL_comm ai, macH_comm ai]
theorem montInv_eq : montInv pLimbs.l0 = pInv := by decide +kernel
theorem mont6_eq (a b : Fp) : mont6 a b pLimbs = halfT b a := by
  unfold mont6 mont5 mont4 mont3 mont2 mont1
  rw [montInv_eq]
  simp only [montR_eq]
  rfl
theorem halfT_top {a b : Fp} (ha : a.nat < pN) : (halfT a b).t6.toNat ≤ 1 := by
  obtain ⟨k, h1, h2⟩ := halfT_nat a b
  rw [L7.nat_low] at h1 h2
  have hlt := (halfT a b).low.nat_lt
  have hpr : 2 * pN < rN := by decide +kernel
  rcases Nat.lt_or_ge (halfT a b).t6.toNat 1 with h | h
  · omega
  · have : rN * 1 ≤ rN * (halfT a b).t6.toNat := Nat.mul_le_mul_left _ h
    rcases Nat.lt_or_ge (halfT a b).t6.toNat 2 with h3 | h3
    · omega
    · have : rN * 2 ≤ rN * (halfT a b).t6.toNat := Nat.mul_le_mul_left _ h3
      omega
theorem montF_half (a : Fp) {b : Fp} (hb : b.ok) : montF a b pLimbs = halfF b a := by
  unfold montF halfF
  rw [mont6_eq]
  exact montE7_eq _ (halfT_top hb)
theorem sq_ok : sqLimbs.ok := by unfold Fp.ok; rw [sq_nat]; exact Nat.mod_lt _ pN_pos
theorem mulPF_nat (a : Fp) {b : Fp} (hb : b.ok) : (mulPF a b).nat = a.nat * b.nat % pN := by
  unfold mulPF
  rw [montF_half a hb, montF_half _ sq_ok]
  obtain ⟨h1, h2⟩ := halfF_nat (b := a) hb
  obtain ⟨h3, h4⟩ := halfF_nat (b := halfF b a) sq_ok
  rw [← Nat.mod_eq_of_lt h3]
  refine r_cancel ?_
  rw [h4, sq_nat, Nat.mod_mul_mod]
  have e : rN * rN * (halfF b a).nat = (halfF b a).nat * rN * rN := by rw [Nat.mul_comm, Nat.mul_assoc]
  rw [e, ← Nat.mod_mul_mod, h2, Nat.mod_mul_mod, Nat.mul_comm a.nat]
theorem mulPF_eq {a b : Fp} (ha : a.ok) (hb : b.ok) : mulPF a b = mulF a b := Fp.nat_inj (by rw [mulPF_nat a hb, mulF_nat ha])
theorem subPF_eq (a b : Fp) : subPF a b = subF a b := by
  unfold subPF minusF subF
  cases (subT a b).2 <;> rfl
theorem negPF_eq (a : Fp) : negPF a = negF a := subPF_eq zeroFp a
theorem addPF_eq (a b : Fp) : addPF a b = addF a b := by
  unfold addPF plusF addF
  rw [lessF_eq, belowF_nat, pLimbs_nat]
  cases (addT a b).2
  · by_cases hl : (addT a b).1.nat < pN
    · rw [decide_eq_true hl]; rfl
    · rw [decide_eq_false hl]; rfl
  · by_cases hl : (addT a b).1.nat < pN
    · rw [decide_eq_true hl]; rfl
    · rw [decide_eq_false hl]; rfl
theorem mulPF_ok (a : Fp) {b : Fp} (hb : b.ok) : (mulPF a b).ok := by unfold Fp.ok; rw [mulPF_nat a hb]; exact Nat.mod_lt _ pN_pos
theorem powPAt_nat {a : Fp} (ha : a.ok) (e : List UInt64) : ∀ (n : Nat) (o : Fp), o.ok → (powPAt a e n o).nat = o.nat ^ 2 ^ n * a.nat ^ eLow e n % pN
  | 0, o, ho => by
    simp only [powPAt, eLow, Nat.pow_zero, Nat.pow_one, Nat.mul_one]
    exact (Nat.mod_eq_of_lt ho).symm
  | n + 1, o, ho => by
    have h1 := mulPF_nat o ho
    simp only [powPAt]
    cases hb : bitAt e n with
    | true =>
      simp only []
      rw [powPAt_nat ha e n _ (mulPF_ok _ ha), mulPF_nat _ ha, h1]
      simp only [eLow, hb, Bool.toNat_true, Nat.one_mul]
      rw [Nat.mod_mul_mod, ← Nat.mod_mul_mod, ← Nat.pow_mod, Nat.mod_mul_mod]
      refine congrArg (fun z => z % pN) ?_
      rw [Nat.mul_pow, ← Nat.pow_two, ← Nat.pow_mul, show 2 ^ (n + 1) = 2 * 2 ^ n by rw [Nat.pow_succ, Nat.mul_comm], Nat.pow_add a.nat, Nat.mul_assoc, Nat.mul_comm (a.nat ^ 2 ^ n)]
    | false =>
      simp only []
      rw [powPAt_nat ha e n _ (mulPF_ok _ ho), h1]
      simp only [eLow, hb, Bool.toNat_false, Nat.zero_mul, Nat.add_zero]
      rw [← Nat.mod_mul_mod, ← Nat.pow_mod, Nat.mod_mul_mod]
      refine congrArg (fun z => z % pN) ?_
      rw [← Nat.pow_two, ← Nat.pow_mul, show 2 ^ (n + 1) = 2 * 2 ^ n by rw [Nat.pow_succ, Nat.mul_comm]]
theorem one_of : ofF 1 = oneFp := rfl
theorem powPF_eq {a : Fp} (ha : a.ok) (e : List UInt64) : powPF a e = powF a e := Fp.nat_inj (by
  unfold powPF
  rw [powF_nat ha, one_of, powPAt_nat ha e _ _ one_ok', one_nat, Nat.one_pow, Nat.one_mul])
theorem pm2_eq : pm2 = [pLimbs.l0 - 2, pLimbs.l1, pLimbs.l2, pLimbs.l3, pLimbs.l4, pLimbs.l5] := by decide +kernel
theorem invPF_eq {a : Fp} (ha : a.ok) : invPF a = invF a := by
  unfold invPF invF
  rw [powPF_eq ha, pm2_eq]
  all_goals rfl
def valL (xs : List UInt64) : Nat := valAt xs xs.length
end Go.Proofs.Ytchlamfdofpolaa
