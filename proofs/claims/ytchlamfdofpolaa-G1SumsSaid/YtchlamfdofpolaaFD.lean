/- Numbers of four limbs: scalars; the document's functions on them. -/
import Derived.Test.YtchlamfdofpolaaFC
set_option linter.unusedSimpArgs false
set_option linter.unusedVariables false
namespace Go.Proofs.Ytchlamfdofpolaa
open Go.RowKit

def rLimbs : Fr := ⟨0xffffffff00000001, 0x53bda402fffe5bfe, 0x3339d80809a1d805, 0x73eda753299d7d48⟩
def sq4Limbs : Fr := ⟨0xc999e990f3f29c6d, 0x2b6cedcb87925c23, 0x05d314967254398f, 0x0748d9d99f59ff11⟩
def zeroFr : Fr := ⟨0, 0, 0, 0⟩
def oneFr : Fr := ⟨1, 0, 0, 0⟩
abbrev r4 : Rs Fr := (kRow Fr).rs
abbrev v4 (a : Fr) : AV := .one ((kRow Fr).av a)
abbrev Kr1 (F : Fr → Fr) : Contract := K1 (kRow Fr).arg r4.res F
abbrev Kr2 (F : Fr → Fr → Fr) : Contract := K2 (kRow Fr).arg (kRow Fr).arg r4.res F
abbrev Krb (F : Fr → Bool) : Contract := K1 (kRow Fr).arg kBool.rs.res F
def Fr.list (a : Fr) : List UInt64 := [a.l0, a.l1, a.l2, a.l3]
def frEq (a b : Fr) : Bool := a.l0 == b.l0 && (a.l1 == b.l1 && (a.l2 == b.l2 && (a.l3 == b.l3 && true)))
theorem frEq_iff (a b : Fr) : frEq a b = true ↔ a = b := by
  cases a; cases b
  simp [frEq]

abbrev oS4 (ty : TypeId) : Out Fr := outSlR Fr ty 4 (fun _ => rfl)
abbrev iS4 : Inp Fr := inpSlR Fr 4 (fun _ => rfl)
abbrev aS4 : Arg Fr := argSlR Fr
abbrev rS4 (ty : TypeId) : Res Fr := resSlR Fr ty 4 (fun _ => rfl)

theorem refR_run : endT (En []) (oS4 22) 100 Try.f54 (flat (codeOf Try.f54)) (startSt Try.f54 [] []) = .leaf (some (rLimbs, .t)) := by kernel_rfl
theorem refR_ok : CallOk Try.prog 54 (K0 (rS4 22) rLimbs) :=
  G0 (E := En []) Try.func54 (c := codeOf Try.f54) (by kernel_rfl) (bodied Try.func54 (by kernel_rfl) (by kernel_rfl)) (oS4 22) rLimbs (DoesL.ends (En_ok .nil) 100 refR_run ⟨.t, rfl, trivial⟩)
theorem modulus4_ok : CallOk Try.prog 122 (K0 r4.res rLimbs) := P0 E0_ok Try.func122 (bodied Try.func122 (by kernel_rfl) (by kernel_rfl)) 100 r4 rLimbs (T := .leaf (some rLimbs)) (by kernel_rfl) rfl
theorem R4_run (m : Fr) : endT (En [(122, K0 r4.res m)]) (oS4 24) 100 Try.f74 (flat (codeOf Try.f74)) (startSt Try.f74 [] []) = .leaf (some (m, .t)) := by kernel_rfl
theorem R4_ok : CallOk Try.prog 74 (K0 (rS4 24) rLimbs) :=
  G0 (E := En [(122, K0 r4.res rLimbs)]) Try.func74 (c := codeOf Try.f74) (by kernel_rfl) (bodied Try.func74 (by kernel_rfl) (by kernel_rfl)) (oS4 24) rLimbs (DoesL.ends (En_ok (.cons modulus4_ok .nil)) 100 (R4_run rLimbs) ⟨.t, rfl, trivial⟩)

def below4F (a m : Fr) : Bool :=
  match a.l3 != m.l3 with
  | true => decide (a.l3 < m.l3)
  | false => match a.l2 != m.l2 with
    | true => decide (a.l2 < m.l2)
    | false => match a.l1 != m.l1 with
      | true => decide (a.l1 < m.l1)
      | false => match a.l0 != m.l0 with
        | true => decide (a.l0 < m.l0)
        | false => false
def below4T (a m : Fr) : Tree (Option (Bool × Pr)) :=
  .br (a.l3 != m.l3) (lfB (decide (a.l3 < m.l3))) (.br (a.l2 != m.l2) (lfB (decide (a.l2 < m.l2))) (.br (a.l1 != m.l1) (lfB (decide (a.l1 < m.l1))) (.br (a.l0 != m.l0) (lfB (decide (a.l0 < m.l0))) (lfB false))))
theorem below4_run (a m : Fr) : endT (En []) oB 100 Try.f53 (flat (codeOf Try.f53)) (startSt Try.f53 [iS4.av 0 a, iS4.av 1 m] (iS4.hes a ++ iS4.hes m)) = below4T a m := by kernel_rfl
theorem below4T_sat (a m : Fr) : (below4T a m).sat fun q => ∃ p, q = some (below4F a m, p) ∧ p.holds := by
  unfold below4F
  refine ⟨fun h => ?_, fun h => ?_⟩ <;> rw [h]
  · exact ⟨.t, rfl, trivial⟩
  refine ⟨fun h => ?_, fun h => ?_⟩ <;> rw [h]
  · exact ⟨.t, rfl, trivial⟩
  refine ⟨fun h => ?_, fun h => ?_⟩ <;> rw [h]
  · exact ⟨.t, rfl, trivial⟩
  refine ⟨fun h => ?_, fun h => ?_⟩ <;> rw [h]
  · exact ⟨.t, rfl, trivial⟩
  · exact ⟨.t, rfl, trivial⟩
theorem below4_ok : CallOk Try.prog 53 (K2 aS4 aS4 oB.res below4F) :=
  G2 (E := En []) Try.func53 (c := codeOf Try.f53) (by kernel_rfl) (bodied Try.func53 (by kernel_rfl) (by kernel_rfl)) iS4 iS4 oB below4F fun a m _ _ => DoesL.ends (En_ok .nil) 100 (below4_run a m) (below4T_sat a m)
def mayRF (a : Fr) : Bool := below4F a rLimbs
theorem mayR_run (bF : Fr → Fr → Bool) (m a : Fr) : plainRun (Ens [(53, K2 aS4 aS4 oB.res bF), (54, K0 (rS4 22) m)] [54]) kBool.rs 100 Try.f16 [v4 a] = .leaf (some (bF a m)) := by kernel_rfl
theorem mayR_ok : CallOk Try.prog 16 (Krb mayRF) := P1 (Ens_ok (.cons below4_ok (.cons refR_ok .nil))) Try.func16 (bodied Try.func16 (by kernel_rfl) (by kernel_rfl)) 100 (kRow Fr) kBool.rs mayRF (mayR_run below4F rLimbs) (fun _ => Tree.sat_leaf (by simp only [mayRF]))

def ofL4 (xs : List UInt64) : Fr := ⟨atF xs 0, atF xs 1, atF xs 2, atF xs 3⟩
abbrev oF4 : Out Fr := r4.out
theorem rfr_run (xs : List UInt64) : endT (En []) oF4 100 Try.f75 (flat (codeOf Try.f75)) (startSt Try.f75 [iL.av 0 xs] [inHE eU64 xs]) =
  (.vc (0 + xs.length ≤ xs.length)
    (.leaf (some (({ l0 := pickC (Nat.blt 0 xs.length) ((List.take xs.length (List.drop 0 xs)).getD 0 0) (UInt64.ofNat 0), l1 := pickC (Nat.blt 1 xs.length) ((List.take xs.length (List.drop 0 xs)).getD 1 0) (UInt64.ofNat 0), l2 := pickC (Nat.blt 2 xs.length) ((List.take xs.length (List.drop 0 xs)).getD 2 0) (UInt64.ofNat 0), l3 := pickC (Nat.blt 3 xs.length) ((List.take xs.length (List.drop 0 xs)).getD 3 0) (UInt64.ofNat 0) }, .t))))) := by kernel_rfl
theorem rfr_ok : CallOk Try.prog 75 (K1 aL oF4.res ofL4) :=
  G1 (E := En []) Try.func75 (c := codeOf Try.f75) (by kernel_rfl) (bodied Try.func75 (by kernel_rfl) (by kernel_rfl)) iL oF4 ofL4 fun xs hx => by
    refine DoesL.ends (En_ok .nil) 100 (rfr_run xs) ⟨by omega, fun _ => reads_t ?_⟩
    rw [pick_at, pick_at, pick_at, pick_at]
    rfl
theorem ofL4_list (a : Fr) : ofL4 a.list = a := rfl

def add4T (a b : Fr) : Fr × Bool :=
  let c0 := addC a.l0 b.l0 false
  let c1 := addC a.l1 b.l1 c0
  let c2 := addC a.l2 b.l2 c1
  (⟨addS a.l0 b.l0 false, addS a.l1 b.l1 c0, addS a.l2 b.l2 c1, addS a.l3 b.l3 c2⟩, addC a.l3 b.l3 c2)
def sub4T (a b : Fr) : Fr × Bool :=
  let c0 := subB a.l0 b.l0 false
  let c1 := subB a.l1 b.l1 c0
  let c2 := subB a.l2 b.l2 c1
  (⟨subS a.l0 b.l0 false, subS a.l1 b.l1 c0, subS a.l2 b.l2 c1, subS a.l3 b.l3 c2⟩, subB a.l3 b.l3 c2)
abbrev rS4u : Res Fr := rS4 22
abbrev oS4u : Out Fr := oS4 22
def four (a : Fr) : List UInt64 := [a.l0, a.l1, a.l2, a.l3]
def wrOk4 (a m : Fr) : Prop := 0 < (four a).length ∧ (four m).length ≤ (four a).length ∧ (four a).length < 4294967296
theorem wrOk4_ok (a m : Fr) : wrOk4 a m := ⟨Nat.lt_of_lt_of_le (by decide : 0 < 4) (Nat.le_refl 4), Nat.le_refl 4, (by decide : 4 < 4294967296)⟩
noncomputable abbrev plus4E (bF : Fr → Fr → Bool) : Env := En [(123, K3x addS addC), (53, K2 aS4 aS4 oB.res bF), (124, Ksub)]
theorem plus4E_ok : EnvOk (plus4E below4F) := En_ok (.cons add64_ok (.cons below4_ok (.cons rsub_ok .nil)))
def lfR (a : Fr) : Tree (Option (Fr × Pr)) := .leaf (some (a, .t))
def plus4T (bF : Fr → Fr → Bool) (a b m : Fr) : Tree (Option (Fr × Pr)) :=
  .br (b2u (add4T a b).2 == 1) (.vc (wrOk4 (add4T a b).1 m) (lfR (sub4T (add4T a b).1 m).1)) (.br (!(bF (add4T a b).1 m)) (.vc (wrOk4 (add4T a b).1 m) (lfR (sub4T (add4T a b).1 m).1)) (lfR (add4T a b).1))
theorem plus4_run (bF : Fr → Fr → Bool) (a b m : Fr) : endT (plus4E bF) oS4u 300 Try.f76 (flat (codeOf Try.f76)) (startSt Try.f76 [iS4.av 0 a, iS4.av 1 b, iS4.av 2 m] (iS4.hes a ++ iS4.hes b ++ iS4.hes m)) = plus4T bF a b m := by kernel_rfl
def plus4F (a b m : Fr) : Fr := match b2u (add4T a b).2 == 1 with
  | true => (sub4T (add4T a b).1 m).1
  | false => match !(below4F (add4T a b).1 m) with
    | true => (sub4T (add4T a b).1 m).1
    | false => (add4T a b).1
theorem plus4T_sat (a b m : Fr) : (plus4T below4F a b m).sat fun q => ∃ p, q = some (plus4F a b m, p) ∧ p.holds := by
  refine ⟨fun h => ⟨wrOk4_ok _ _, fun _ => ?_⟩, fun h => ⟨fun h2 => ⟨wrOk4_ok _ _, fun _ => ?_⟩, fun h2 => ?_⟩⟩
  · exact reads_t (by unfold plus4F; rw [h])
  · exact reads_t (by unfold plus4F; rw [h, h2])
  · exact reads_t (by unfold plus4F; rw [h, h2])
theorem plus4_ok : CallOk Try.prog 76 (K3 aS4 aS4 aS4 rS4u plus4F) :=
  G3 (E := plus4E below4F) Try.func76 (c := codeOf Try.f76) (by kernel_rfl) (bodied Try.func76 (by kernel_rfl) (by kernel_rfl)) iS4 iS4 iS4 oS4u plus4F fun a b m _ _ _ => DoesL.ends plus4E_ok 300 (plus4_run below4F a b m) (plus4T_sat a b m)
def minus4T (a b m : Fr) : Tree (Option (Fr × Pr)) := .br (b2u (sub4T a b).2 == 1) (lfR (add4T (sub4T a b).1 m).1) (lfR (sub4T a b).1)
theorem minus4_run (a b m : Fr) : endT minusE oS4u 300 Try.f126 (flat (codeOf Try.f126)) (startSt Try.f126 [iS4.av 0 a, iS4.av 1 b, iS4.av 2 m] (iS4.hes a ++ iS4.hes b ++ iS4.hes m)) = minus4T a b m := by kernel_rfl
def minus4F (a b m : Fr) : Fr := match b2u (sub4T a b).2 == 1 with
  | true => (add4T (sub4T a b).1 m).1
  | false => (sub4T a b).1
theorem minus4_ok : CallOk Try.prog 126 (K3 aS4 aS4 aS4 rS4u minus4F) :=
  G3 (E := minusE) Try.func126 (c := codeOf Try.f126) (by kernel_rfl) (bodied Try.func126 (by kernel_rfl) (by kernel_rfl)) iS4 iS4 iS4 oS4u minus4F fun a b m _ _ _ => DoesL.ends minusE_ok 300 (minus4_run a b m)
    ⟨fun h => reads_t (by unfold minus4F; rw [h]), fun h => reads_t (by unfold minus4F; rw [h])⟩

abbrev K3s4 (F : Fr → Fr → Fr → Fr) : Contract := K3 aS4 aS4 aS4 rS4u F
abbrev Kfr (F : List UInt64 → Fr) : Contract := K1 aL oF4.res F
theorem addR_run (pF : Fr → Fr → Fr → Fr) (m a b : Fr) : plainRun (Ens [(76, K3s4 pF), (54, K0 rS4u m), (75, Kfr ofL4)] [76, 54]) r4 100 Try.f31 [v4 a, v4 b] = .leaf (some (pF a b m)) := by kernel_rfl
def addRF (a b : Fr) : Fr := plus4F a b rLimbs
theorem addR_ok : CallOk Try.prog 31 (Kr2 addRF) := P2 (Ens_ok (.cons plus4_ok (.cons refR_ok (.cons rfr_ok .nil)))) Try.func31 (bodied Try.func31 (by kernel_rfl) (by kernel_rfl)) 100 (kRow Fr) (kRow Fr) r4 addRF (addR_run plus4F rLimbs) (fun _ _ => Tree.sat_leaf (by simp only [addRF]))
theorem subR_run (pF : Fr → Fr → Fr → Fr) (m a b : Fr) : plainRun (Ens [(126, K3s4 pF), (54, K0 rS4u m), (75, Kfr ofL4)] [126, 54]) r4 100 Try.f78 [v4 a, v4 b] = .leaf (some (pF a b m)) := by kernel_rfl
def subRF (a b : Fr) : Fr := minus4F a b rLimbs
theorem subR_ok : CallOk Try.prog 78 (Kr2 subRF) := P2 (Ens_ok (.cons minus4_ok (.cons refR_ok (.cons rfr_ok .nil)))) Try.func78 (bodied Try.func78 (by kernel_rfl) (by kernel_rfl)) 100 (kRow Fr) (kRow Fr) r4 subRF (subR_run minus4F rLimbs) (fun _ _ => Tree.sat_leaf (by simp only [subRF]))
theorem negR_run (sF : Fr → Fr → Fr) (a : Fr) : plainRun (En [(78, Kr2 sF)]) r4 100 Try.f34 [v4 a] = .leaf (some (sF zeroFr a)) := by kernel_rfl
def negRF (a : Fr) : Fr := subRF zeroFr a
theorem negR_ok : CallOk Try.prog 34 (Kr1 negRF) := P1 (En_ok (.cons subR_ok .nil)) Try.func34 (bodied Try.func34 (by kernel_rfl) (by kernel_rfl)) 100 (kRow Fr) r4 negRF (negR_run subRF) (fun _ => Tree.sat_leaf (by simp only [negRF]))

/-! ## Montgomery's product of four limbs -/
structure L5 where
  t0 : UInt64
  t1 : UInt64
  t2 : UInt64
  t3 : UInt64
  t4 : UInt64
def L5.low (t : L5) : Fr := ⟨t.t0, t.t1, t.t2, t.t3⟩
def L5.cs (t : L5) : List Cell := [.u64 t.t0, .u64 t.t1, .u64 t.t2, .u64 t.t3, .u64 t.t4]
def mont4B (m : Fr) (inv : UInt64) (t0 t1 t2 t3 top : UInt64) (more : Bool) : L5 :=
  let x := t0 * inv
  let d0 := mulHi x m.l0 + b2u (addC t0 (x * m.l0) false)
  let d1 := rmH x m.l1 t1 d0
  let d2 := rmH x m.l2 t2 d1
  let d3 := rmH x m.l3 t3 d2
  ⟨rmL x m.l1 t1 d0, rmL x m.l2 t2 d1, rmL x m.l3 t3 d2, addS top d3 false, b2u more + b2u (addC top d3 false)⟩
def mont4M (ai : UInt64) (b : Fr) (t : L5) : Bool :=
  let c0 := rmH ai b.l0 t.t0 0
  let c1 := rmH ai b.l1 t.t1 c0
  let c2 := rmH ai b.l2 t.t2 c1
  let c3 := rmH ai b.l3 t.t3 c2
  addC t.t4 c3 false
def mont4R (m : Fr) (inv : UInt64) (ai : UInt64) (b : Fr) (t : L5) : L5 :=
  let c0 := rmH ai b.l0 t.t0 0
  let c1 := rmH ai b.l1 t.t1 c0
  let c2 := rmH ai b.l2 t.t2 c1
  let c3 := rmH ai b.l3 t.t3 c2
  mont4B m inv (rmL ai b.l0 t.t0 0) (rmL ai b.l1 t.t1 c0) (rmL ai b.l2 t.t2 c1) (rmL ai b.l3 t.t3 c2) (addS t.t4 c3 false) (addC t.t4 c3 false)
noncomputable abbrev mont4E (bF : Fr → Fr → Bool) : Env := En [(125, K2 kU64.arg kU64.arg (kU64.rs2 kU64).res fun x y => (mulHi x y, x * y)), (123, K3x addS addC), (53, K2 aS4 aS4 oB.res bF), (124, Ksub)]
theorem mont4E_ok : EnvOk (mont4E below4F) := En_ok (.cons mul64_ok (.cons add64_ok (.cons below4_ok (.cons rsub_ok .nil))))
def mSt4 (a b m : Fr) (inv : UInt64) (k : Nat) (t : List Cell) : St :=
  mkSt 222 [(0, slR 0 4), (1, slR 1 4), (2, slR 2 4), (7, litV 4), (8, vU inv), (10, slR 3 6), (11, litV k)] [.live ⟨false, 0, 1, .row (Row.cs a), false⟩, .live ⟨false, 0, 1, .row (Row.cs b), false⟩, .live ⟨false, 0, 1, .row (Row.cs m), false⟩, .live ⟨true, 22, 1, .row t, false⟩]
def six4 (t : L5) (h : Bool) : List Cell := t.cs ++ [.bit h]
set_option maxRecDepth 100000
theorem mont4_start (bF : Fr → Fr → Bool) (a b m : Fr) : stageT (mont4E bF) 300 (montC.take 8) (startSt Try.f77 [iS4.av 0 a, iS4.av 1 b, iS4.av 2 m] (iS4.hes a ++ iS4.hes b ++ iS4.hes m)) [0, 1, 2, 7, 8, 10, 11] [0, 1, 2, 3] = .leaf (mSt4 a b m (montInv m.l0) 0 (zeros 6)) := by kernel_rfl
theorem mont4_round0 (bF : Fr → Fr → Bool) (a b m : Fr) (inv : UInt64) : roundT (mont4E bF) 300 montO (mSt4 a b m inv 0 (zeros 6)) mCut = .leaf (.normal, mSt4 a b m inv 1 (six4 (mont4R m inv a.l0 b ⟨0, 0, 0, 0, 0⟩) (mont4M a.l0 b ⟨0, 0, 0, 0, 0⟩))) := by kernel_rfl
theorem mont4_round1 (bF : Fr → Fr → Bool) (a b m : Fr) (inv : UInt64) (t : L5) (h : Bool) : roundT (mont4E bF) 300 montO (mSt4 a b m inv 1 (six4 t h)) mCut = .leaf (.normal, mSt4 a b m inv 2 (six4 (mont4R m inv a.l1 b t) (mont4M a.l1 b t))) := by kernel_rfl
theorem mont4_round2 (bF : Fr → Fr → Bool) (a b m : Fr) (inv : UInt64) (t : L5) (h : Bool) : roundT (mont4E bF) 300 montO (mSt4 a b m inv 2 (six4 t h)) mCut = .leaf (.normal, mSt4 a b m inv 3 (six4 (mont4R m inv a.l2 b t) (mont4M a.l2 b t))) := by kernel_rfl
theorem mont4_round3 (bF : Fr → Fr → Bool) (a b m : Fr) (inv : UInt64) (t : L5) (h : Bool) : roundT (mont4E bF) 300 montO (mSt4 a b m inv 3 (six4 t h)) mCut = .leaf (.normal, mSt4 a b m inv 4 (six4 (mont4R m inv a.l3 b t) (mont4M a.l3 b t))) := by kernel_rfl
theorem mont4_out (bF : Fr → Fr → Bool) (a b m : Fr) (inv : UInt64) (t : L5) (h : Bool) : roundT (mont4E bF) 300 montO (mSt4 a b m inv 4 (six4 t h)) mCut = .leaf (.exit 2, mSt4 a b m inv 4 (six4 t h)) := by kernel_rfl
def wrOk6 (m : Fr) : Prop := 0 < 6 ∧ 4 ≤ 6 ∧ 6 < 4294967296
def mont4T (bF : Fr → Fr → Bool) (m : Fr) (t : L5) : Tree (Option (Fr × Pr)) :=
  .br (t.t4 != 0) (.vc (wrOk6 m) (lfR (sub4T t.low m).1)) (.br (!(bF t.low m)) (.vc (wrOk6 m) (lfR (sub4T t.low m).1)) (lfR t.low))
theorem mont4_end (bF : Fr → Fr → Bool) (a b m : Fr) (inv : UInt64) (t : L5) (h : Bool) : endT (mont4E bF) oS4u 300 Try.f77 (montC.drop 9) (mSt4 a b m inv 4 (six4 t h)) = mont4T bF m t := by kernel_rfl
def mont4X (m : Fr) (t : L5) : Fr := match t.t4 != 0 with
  | true => (sub4T t.low m).1
  | false => match !(below4F t.low m) with
    | true => (sub4T t.low m).1
    | false => t.low
def mont4_1 (a b m : Fr) : L5 := mont4R m (montInv m.l0) a.l0 b ⟨0, 0, 0, 0, 0⟩
def mont4_2 (a b m : Fr) : L5 := mont4R m (montInv m.l0) a.l1 b (mont4_1 a b m)
def mont4_3 (a b m : Fr) : L5 := mont4R m (montInv m.l0) a.l2 b (mont4_2 a b m)
def mont4_4 (a b m : Fr) : L5 := mont4R m (montInv m.l0) a.l3 b (mont4_3 a b m)
def mont4F (a b m : Fr) : Fr := mont4X m (mont4_4 a b m)
theorem mont4T_sat (m : Fr) (t : L5) : (mont4T below4F m t).sat fun q => ∃ p, q = some (mont4X m t, p) ∧ p.holds := by
  have w : wrOk6 m := ⟨by decide, by decide, by decide⟩
  refine ⟨fun h => ⟨w, fun _ => ?_⟩, fun h => ⟨fun h2 => ⟨w, fun _ => ?_⟩, fun h2 => ?_⟩⟩
  · exact reads_t (by unfold mont4X; rw [h])
  · exact reads_t (by unfold mont4X; rw [h, h2])
  · exact reads_t (by unfold mont4X; rw [h, h2])
def mAt4 (a b m : Fr) (q : Fin 5 × Bool) : St :=
  match q.1 with
  | 0 => mSt4 a b m (montInv m.l0) 0 (zeros 6)
  | 1 => mSt4 a b m (montInv m.l0) 1 (six4 (mont4_1 a b m) q.2)
  | 2 => mSt4 a b m (montInv m.l0) 2 (six4 (mont4_2 a b m) q.2)
  | 3 => mSt4 a b m (montInv m.l0) 3 (six4 (mont4_3 a b m) q.2)
  | 4 => mSt4 a b m (montInv m.l0) 4 (six4 (mont4_4 a b m) q.2)
theorem mont4_ok : CallOk Try.prog 77 (K3 aS4 aS4 aS4 rS4u mont4F) :=
  G3 (E := mont4E below4F) Try.func77 (c := codeOf Try.f77) (by kernel_rfl) (bodied Try.func77 (by kernel_rfl) (by kernel_rfl)) iS4 iS4 iS4 oS4u mont4F fun a b m _ _ _ => by
    have hE := mont4E_ok
    refine DoesL.stageTo hE 300 8 _ _ (mont4_start below4F a b m) ?_
    refine DoesL.blockLoop mont_split (mAt4 a b m) (fun q => 4 - q.1.1) (0, false) fun q => ?_
    obtain ⟨k, h⟩ := q
    match k with
    | 0 => exact Does.round hE 300 mCut (mont4_round0 below4F a b m _) ⟨(1, mont4M a.l0 b ⟨0, 0, 0, 0, 0⟩), by show 4 - 1 < 4 - 0; decide, by simp only [mAt4, mont4_1]⟩
    | 1 => exact Does.round hE 300 mCut (mont4_round1 below4F a b m _ (mont4_1 a b m) h) ⟨(2, mont4M a.l1 b (mont4_1 a b m)), by show 4 - 2 < 4 - 1; decide, by simp only [mAt4, mont4_2]⟩
    | 2 => exact Does.round hE 300 mCut (mont4_round2 below4F a b m _ (mont4_2 a b m) h) ⟨(3, mont4M a.l2 b (mont4_2 a b m)), by show 4 - 3 < 4 - 2; decide, by simp only [mAt4, mont4_3]⟩
    | 3 => exact Does.round hE 300 mCut (mont4_round3 below4F a b m _ (mont4_3 a b m) h) ⟨(4, mont4M a.l3 b (mont4_3 a b m)), by show 4 - 4 < 4 - 3; decide, by simp only [mAt4, mont4_4]⟩
    | 4 => exact Does.round hE 300 mCut (mont4_out below4F a b m _ (mont4_4 a b m) h) ⟨rfl, DoesL.ends hE 300 (mont4_end below4F a b m _ (mont4_4 a b m) h) (mont4T_sat m (mont4_4 a b m))⟩
theorem mulR_run (pF : Fr → Fr → Fr → Fr) (m a b : Fr) : plainRun (Ens [(77, K3s4 pF), (54, K0 rS4u m), (75, Kfr ofL4)] [77, 54]) r4 100 Try.f32 [v4 a, v4 b] = .leaf (some (pF (pF a b m) sq4Limbs m)) := by kernel_rfl
def mulRF (a b : Fr) : Fr := mont4F (mont4F a b rLimbs) sq4Limbs rLimbs
theorem mulR_ok : CallOk Try.prog 32 (Kr2 mulRF) := P2 (Ens_ok (.cons mont4_ok (.cons refR_ok (.cons rfr_ok .nil)))) Try.func32 (bodied Try.func32 (by kernel_rfl) (by kernel_rfl)) 100 (kRow Fr) (kRow Fr) r4 mulRF (mulR_run mont4F rLimbs) (fun _ _ => Tree.sat_leaf (by simp only [mulRF]))

end Go.Proofs.Ytchlamfdofpolaa
