/- Parts Fp, Fq, Fr, joined. -/
import Derived.Test.YtchlamfdofpolaaFB
import Derived.Test.YtchlamfdofpolaaED
/- The document's functions on numbers of limbs, part f: what is done in place; sums and differences modulo. -/
set_option linter.unusedSimpArgs false
set_option linter.unusedVariables false
namespace Go.Proofs.Ytchlamfdofpolaa
open Go.RowKit

/-! sub -/
noncomputable abbrev rsubC : List Code := flat (codeOf Try.f124)
noncomputable abbrev rsubB : Code := loopAt Try.f124 0
def rsubSt (ty ty' : TypeId) (xs ys : List UInt64) (c : Bool) (z : Int) : St := mkSt 28 [(0, slW 0 xs), (1, slW 1 ys), (4, bitV c), (5, vI z)] (wrHE ty ty' xs ys)
noncomputable abbrev rsubE (S : UInt64 → UInt64 → Bool → UInt64) (C : UInt64 → UInt64 → Bool → Bool) : Env := En [(137, K3x S C)]
theorem rsubE_ok : EnvOk (rsubE subS subB) := En_ok (.cons sub64_ok .nil)
theorem rsub_start (S : UInt64 → UInt64 → Bool → UInt64) (C : UInt64 → UInt64 → Bool → Bool) (ty ty' : TypeId) (xs ys : List UInt64) : stageG (rsubE S C) 100 (rsubC.take 2) (startSt Try.f124 [slW 0 xs, slW 1 ys] (wrHE ty ty' xs ys)) [0, 1, 4, 5] [0, 1] [(0, .as), (1, .as), (4, .bit), (5, .int)] [] [] =
  (.leaf (mkSt 28 [(0, .one (.c (.slc 0 0 (xs.length) 1 (.of 0) false))), (1, .one (.c (.slc 1 0 (ys.length) 1 (.of 0) false))), (4, .one (.c (.bit (false)))), (5, .one (.c (.int .i64 0)))] [.live ⟨true, (ty), 1, (.elts .u64 (xs : List UInt64)), true⟩, .live ⟨false, (ty'), 1, (.elts .u64 (ys : List UInt64)), false⟩])) := by kernel_rfl
theorem rsub_round (S : UInt64 → UInt64 → Bool → UInt64) (C : UInt64 → UInt64 → Bool → Bool) (ty ty' : TypeId) (xs ys : List UInt64) (c : Bool) (z : Int) : roundT (rsubE S C) 100 rsubB (rsubSt ty ty' xs ys c z) (same [0, 1, 4, 5] [0, 1]) =
  (.vc (0 + ys.length * 1 ≤ (List.map EK.u64.cell ys).length ∧ 0 < 1)
    (.br (decide (z < (↑ys.length : Int)))
      (.vc ((0 ≤ z ∧ z < (↑xs.length : Int)) ∧ 0 + xs.length * 1 ≤ (List.map EK.u64.cell xs).length ∧ 0 < 1)
        (.vc (0 + z.toNat * 1 < xs.length)
          (.vc ((0 ≤ z ∧ z < (↑ys.length : Int)) ∧ 0 + ys.length * 1 ≤ (List.map EK.u64.cell ys).length ∧ 0 < 1)
            (.vc (0 + z.toNat * 1 < ys.length)
              (.vc ((0 ≤ z ∧ z < (↑xs.length : Int)) ∧ 0 + xs.length * 1 ≤ (List.map EK.u64.cell xs).length ∧ 0 < 1)
                (.vc (0 + z.toNat * 1 < xs.length)
                  (.leaf ((.normal, mkSt 28 [(0, .one (.c (.slc 0 0 (xs.length) 1 (.of 0) false))), (1, .one (.c (.slc 1 0 (ys.length) 1 (.of 0) false))), (4, .one (.c (.bit (C (xs.getD (0 + z.toNat * 1) 0) (ys.getD (0 + z.toNat * 1) 0) c)))), (5, .one (.c (.int .i64 (IntKind.i64.wrap (z + 1)))))] [.live ⟨true, (ty), 1, (.elts .u64 (xs.set (0 + z.toNat * 1) (S (xs.getD (0 + z.toNat * 1) 0) (ys.getD (0 + z.toNat * 1) 0) c) : List UInt64)), true⟩, .live ⟨false, (ty'), 1, (.elts .u64 (ys : List UInt64)), false⟩])))))))))
      (.leaf ((.exit 0, mkSt 28 [(0, .one (.c (.slc 0 0 (xs.length) 1 (.of 0) false))), (1, .one (.c (.slc 1 0 (ys.length) 1 (.of 0) false))), (4, .one (.c (.bit (c)))), (5, .one (.c (.int .i64 (z))))] [.live ⟨true, (ty), 1, (.elts .u64 (xs : List UInt64)), true⟩, .live ⟨false, (ty'), 1, (.elts .u64 (ys : List UInt64)), false⟩]))))) := by kernel_rfl
theorem rsub_end (S : UInt64 → UInt64 → Bool → UInt64) (C : UInt64 → UInt64 → Bool → Bool) (ty ty' : TypeId) (xs ys : List UInt64) (c : Bool) (z : Int) : wendT (rsubE S C) 100 Try.f124 (rsubC.drop 3) (rsubSt ty ty' xs ys c z) =
  (.leaf (some ((AV.tup [], hpS (wrHE ty ty' xs ys) 0)))) := by kernel_rfl

/-! fp -/
theorem rfp_run (xs : List UInt64) : endT (En []) oF 100 Try.f117 (flat (codeOf Try.f117)) (startSt Try.f117 [iL.av 0 xs] [inHE eU64 xs]) =
  (.vc (0 + xs.length ≤ xs.length)
    (.leaf (some (({ l0 := pickC (Nat.blt 0 xs.length) ((List.take xs.length (List.drop 0 xs)).getD 0 0) (UInt64.ofNat 0), l1 := pickC (Nat.blt 1 xs.length) ((List.take xs.length (List.drop 0 xs)).getD 1 0) (UInt64.ofNat 0), l2 := pickC (Nat.blt 2 xs.length) ((List.take xs.length (List.drop 0 xs)).getD 2 0) (UInt64.ofNat 0), l3 := pickC (Nat.blt 3 xs.length) ((List.take xs.length (List.drop 0 xs)).getD 3 0) (UInt64.ofNat 0), l4 := pickC (Nat.blt 4 xs.length) ((List.take xs.length (List.drop 0 xs)).getD 4 0) (UInt64.ofNat 0), l5 := pickC (Nat.blt 5 xs.length) ((List.take xs.length (List.drop 0 xs)).getD 5 0) (UInt64.ofNat 0) }, .t))))) := by kernel_rfl

theorem set_get (xs : List UInt64) (k : Nat) (v : UInt64) {j : Nat} (h : j ≠ k) : atF (xs.set k v) j = atF xs j := by
  unfold atF
  rw [List.getD_eq_getElem?_getD, List.getD_eq_getElem?_getD, List.getElem?_set_ne (Ne.symm h)]

/-- A difference in place: of the limbs from the first on. -/
def subL : List UInt64 → List UInt64 → Bool → List UInt64
  | xs, [], _ => xs
  | [], _ :: _, _ => []
  | x :: xs, y :: ys, c => subS x y c :: subL xs ys (subB x y c)
theorem subL_len : ∀ (xs ys : List UInt64) (c : Bool), ys.length ≤ xs.length → (subL xs ys c).length = xs.length
  | xs, [], _, _ => by cases xs <;> rfl
  | x :: xs, y :: ys, c, h => by simp only [subL, List.length_cons]; rw [subL_len xs ys _ (by simpa using h)]
  | [], _ :: _, _, h => by simp at h

def subW : Nat → List UInt64 → List UInt64 → Bool → List UInt64 × Bool
  | 0, xs, ys, c => (xs, c)
  | k + 1, xs, ys, c => ((subW k xs ys c).1.set k (subS (atF xs k) (atF ys k) (subW k xs ys c).2), subB (atF xs k) (atF ys k) (subW k xs ys c).2)
theorem subW_len (xs ys : List UInt64) (c : Bool) : ∀ k, (subW k xs ys c).1.length = xs.length
  | 0 => rfl
  | k + 1 => by simp only [subW, List.length_set, subW_len xs ys c k]
theorem subW_at (xs ys : List UInt64) (c : Bool) : ∀ k j, k ≤ j → atF (subW k xs ys c).1 j = atF xs j
  | 0, j, _ => rfl
  | k + 1, j, h => by
    simp only [subW]
    rw [set_get _ _ _ (by omega), subW_at xs ys c k j (by omega)]
theorem subW_cons (x y : UInt64) (xs ys : List UInt64) (c : Bool) : ∀ k, subW (k + 1) (x :: xs) (y :: ys) c = (subS x y c :: (subW k xs ys (subB x y c)).1, (subW k xs ys (subB x y c)).2)
  | 0 => rfl
  | k + 1 => by
    have ih := subW_cons x y xs ys c k
    have e1 : atF (x :: xs) (k + 1) = atF xs k := by simp [atF]
    have e2 : atF (y :: ys) (k + 1) = atF ys k := by simp [atF]
    rw [subW, ih, e1, e2]
    simp only [subW, List.set_cons_succ]
theorem subW_eq : ∀ (xs ys : List UInt64) (c : Bool), ys.length ≤ xs.length → (subW ys.length xs ys c).1 = subL xs ys c
  | xs, [], c, _ => by cases xs <;> rfl
  | [], _ :: _, _, h => by simp at h
  | x :: xs, y :: ys, c, h => by
    show (subW (ys.length + 1) (x :: xs) (y :: ys) c).1 = _
    rw [subW_cons]
    simp only [subL]
    rw [subW_eq xs ys _ (by simpa using h)]

theorem rsub_ok : CallOk Try.prog 124 (Kwl fun xs ys => (subW ys.length xs ys false).1) := by
  refine Kwl_ok (E := rsubE subS subB) Try.func124 (c := codeOf Try.f124) (by kernel_rfl) (bodied Try.func124 (by kernel_rfl) (by kernel_rfl)) (fun xs ys => subW_len _ _ _ _) fun ty ty' xs ys h0 hl hb => ?_
  have hE := rsubE_ok
  refine DoesL.stageG hE 100 2 _ _ _ _ _ (rsub_start subS subB ty ty' xs ys) ?_
  refine DoesL.blockLoop (B := rsubB) (rest := rsubC.drop 3) (id := 0) (by kernel_rfl) (fun k : { k : Nat // k ≤ ys.length } => rsubSt ty ty' (subW k.1 xs ys false).1 ys (subW k.1 xs ys false).2 (k.1 : Int)) (fun k => ys.length - k.1) ⟨0, by omega⟩ fun k => ?_
  obtain ⟨k, hk⟩ := k
  have hw := subW_len xs ys false k
  have ha := subW_at xs ys false k k (Nat.le_refl _)
  show Does _ _ (rsubSt ty ty' (subW k xs ys false).1 ys (subW k xs ys false).2 (k : Int)) _
  refine Does.round hE 100 _ (rsub_round subS subB ty ty' (subW k xs ys false).1 ys (subW k xs ys false).2 (k : Int)) ⟨vcLen ys, fun _ => ⟨fun h => ?_, fun h => ?_⟩⟩
  · simp only [decide_eq_true_eq] at h
    have k1 : k < ys.length := by omega
    have k2 : k < (subW k xs ys false).1.length := by omega
    refine ⟨vcIdx k2, fun _ => ⟨vcGet k2, fun _ => ⟨vcIdx k1, fun _ => ⟨vcGet k1, fun _ => ⟨vcIdx k2, fun _ => ⟨vcGet k2, fun _ => ?_⟩⟩⟩⟩⟩⟩
    refine ⟨⟨k + 1, by omega⟩, by show ys.length - (k + 1) < ys.length - k; omega, ?_⟩
    rw [wrap_succ k (by omega), getZ, getZ, Int.toNat_natCast, Nat.zero_add, Nat.mul_one, ha]
    have e : (subW (k + 1) xs ys false).1.length = (subW k xs ys false).1.length := by rw [subW_len, subW_len]
    show _ = rsubSt ty ty' (subW (k + 1) xs ys false).1 ys (subW (k + 1) xs ys false).2 ((k + 1 : Nat) : Int)
    unfold rsubSt slW
    rw [e]
    rfl
  · simp only [decide_eq_false_iff_not] at h
    obtain rfl : k = ys.length := by omega
    exact ⟨rfl, DoesL.wends hE 100 (rsub_end subS subB ty ty' _ ys _ _) (Tree.sat_leaf rfl)⟩

/-- The first six limbs of a list. -/
def ofL (xs : List UInt64) : Fp := ⟨atF xs 0, atF xs 1, atF xs 2, atF xs 3, atF xs 4, atF xs 5⟩
theorem pick_at (xs : List UInt64) (k : Nat) : pickC (Nat.blt k xs.length) ((List.take xs.length (List.drop 0 xs)).getD k 0) (UInt64.ofNat 0) = atF xs k := by
  rw [whole]
  cases h : Nat.blt k xs.length with
  | true => rfl
  | false =>
    have : ¬ k < xs.length := fun h2 => by rw [show Nat.blt k xs.length = true from Nat.ble_eq_true_of_le h2] at h; cases h
    simp only [pickC, atF, List.getD_eq_getElem?_getD]
    rw [List.getElem?_eq_none (by omega)]
    rfl
theorem rfp_ok : CallOk Try.prog 117 (K1 aL oF.res ofL) :=
  G1 (E := En []) Try.func117 (c := codeOf Try.f117) (by kernel_rfl) (bodied Try.func117 (by kernel_rfl) (by kernel_rfl)) iL oF ofL fun xs hx => by
    refine DoesL.ends (En_ok .nil) 100 (rfp_run xs) ⟨by omega, fun _ => reads_t ?_⟩
    rw [pick_at, pick_at, pick_at, pick_at, pick_at, pick_at]
    rfl

/-! plus, minus -/
abbrev rSu : Res Fp := rS 22
abbrev oSu : Out Fp := oS 22
def six (a : Fp) : List UInt64 := [a.l0, a.l1, a.l2, a.l3, a.l4, a.l5]
def wrOk (a m : Fp) : Prop := 0 < (six a).length ∧ (six m).length ≤ (six a).length ∧ (six a).length < 4294967296
theorem wrOk_ok (a m : Fp) : wrOk a m := ⟨Nat.lt_of_lt_of_le (by decide : 0 < 6) (Nat.le_refl 6), Nat.le_refl 6, (by decide : 6 < 4294967296)⟩
abbrev Ksub : Contract := Kwl fun xs ys => (subW ys.length xs ys false).1
noncomputable abbrev plusE (bF : Fp → Fp → Bool) : Env := En [(123, K3x addS addC), (53, K2 aS aS oB.res bF), (124, Ksub)]
theorem plusE_ok : EnvOk (plusE belowF) := En_ok (.cons add64_ok (.cons below_ok (.cons rsub_ok .nil)))
def lfF (a : Fp) : Tree (Option (Fp × Pr)) := .leaf (some (a, .t))
def plusT (bF : Fp → Fp → Bool) (a b m : Fp) : Tree (Option (Fp × Pr)) :=
  .br (b2u (addT a b).2 == 1) (.vc (wrOk (addT a b).1 m) (lfF (subT (addT a b).1 m).1)) (.br (!(bF (addT a b).1 m)) (.vc (wrOk (addT a b).1 m) (lfF (subT (addT a b).1 m).1)) (lfF (addT a b).1))
theorem plus_run (bF : Fp → Fp → Bool) (a b m : Fp) : endT (plusE bF) oSu 300 Try.f76 (flat (codeOf Try.f76)) (startSt Try.f76 [iS.av 0 a, iS.av 1 b, iS.av 2 m] (iS.hes a ++ iS.hes b ++ iS.hes m)) = plusT bF a b m := by kernel_rfl

def plusF (a b m : Fp) : Fp := match b2u (addT a b).2 == 1 with
  | true => (subT (addT a b).1 m).1
  | false => match !(belowF (addT a b).1 m) with
    | true => (subT (addT a b).1 m).1
    | false => (addT a b).1
theorem plusT_sat (a b m : Fp) : (plusT belowF a b m).sat fun q => ∃ p, q = some (plusF a b m, p) ∧ p.holds := by
  refine ⟨fun h => ⟨wrOk_ok _ _, fun _ => ?_⟩, fun h => ⟨fun h2 => ⟨wrOk_ok _ _, fun _ => ?_⟩, fun h2 => ?_⟩⟩
  · exact reads_t (by unfold plusF; rw [h])
  · exact reads_t (by unfold plusF; rw [h, h2])
  · exact reads_t (by unfold plusF; rw [h, h2])
theorem plus_ok : CallOk Try.prog 76 (K3 aS aS aS rSu plusF) :=
  G3 (E := plusE belowF) Try.func76 (c := codeOf Try.f76) (by kernel_rfl) (bodied Try.func76 (by kernel_rfl) (by kernel_rfl)) iS iS iS oSu plusF fun a b m _ _ _ => DoesL.ends plusE_ok 300 (plus_run belowF a b m) (plusT_sat a b m)

noncomputable abbrev minusE : Env := En [(123, K3x addS addC), (137, K3x subS subB)]
theorem minusE_ok : EnvOk minusE := En_ok (.cons add64_ok (.cons sub64_ok .nil))
def minusT (a b m : Fp) : Tree (Option (Fp × Pr)) := .br (b2u (subT a b).2 == 1) (lfF (addT (subT a b).1 m).1) (lfF (subT a b).1)
theorem minus_run (a b m : Fp) : endT minusE oSu 300 Try.f126 (flat (codeOf Try.f126)) (startSt Try.f126 [iS.av 0 a, iS.av 1 b, iS.av 2 m] (iS.hes a ++ iS.hes b ++ iS.hes m)) = minusT a b m := by kernel_rfl
def minusF (a b m : Fp) : Fp := match b2u (subT a b).2 == 1 with
  | true => (addT (subT a b).1 m).1
  | false => (subT a b).1
theorem minus_ok : CallOk Try.prog 126 (K3 aS aS aS rSu minusF) :=
  G3 (E := minusE) Try.func126 (c := codeOf Try.f126) (by kernel_rfl) (bodied Try.func126 (by kernel_rfl) (by kernel_rfl)) iS iS iS oSu minusF fun a b m _ _ _ => DoesL.ends minusE_ok 300 (minus_run a b m)
    ⟨fun h => reads_t (by unfold minusF; rw [h]), fun h => reads_t (by unfold minusF; rw [h])⟩

/-! the rest, over these -/
abbrev K3s (F : Fp → Fp → Fp → Fp) : Contract := K3 aS aS aS rSu F
abbrev Kfp (F : List UInt64 → Fp) : Contract := K1 aL oF.res F
theorem ofL_list (a : Fp) : ofL a.list = a := rfl

theorem addP_run (pF : Fp → Fp → Fp → Fp) (m a b : Fp) : plainRun (Ens [(76, K3s pF), (116, K0 rSu m), (117, Kfp ofL)] [76, 116]) rF 100 Try.f70 [vF a, vF b] = .leaf (some (pF a b m)) := by kernel_rfl
def addPF (a b : Fp) : Fp := plusF a b pLimbs
theorem addP_ok : CallOk Try.prog 70 (Kff addPF) := P2 (Ens_ok (.cons plus_ok (.cons refP_ok (.cons rfp_ok .nil)))) Try.func70 (bodied Try.func70 (by kernel_rfl) (by kernel_rfl)) 100 (kRow Fp) (kRow Fp) rF addPF (addP_run plusF pLimbs) (fun _ _ => Tree.sat_leaf (by simp only [addPF]))
theorem subP_run (pF : Fp → Fp → Fp → Fp) (m a b : Fp) : plainRun (Ens [(126, K3s pF), (116, K0 rSu m), (117, Kfp ofL)] [126, 116]) rF 100 Try.f112 [vF a, vF b] = .leaf (some (pF a b m)) := by kernel_rfl
def subPF (a b : Fp) : Fp := minusF a b pLimbs
theorem subP_ok : CallOk Try.prog 112 (Kff subPF) := P2 (Ens_ok (.cons minus_ok (.cons refP_ok (.cons rfp_ok .nil)))) Try.func112 (bodied Try.func112 (by kernel_rfl) (by kernel_rfl)) 100 (kRow Fp) (kRow Fp) rF subPF (subP_run minusF pLimbs) (fun _ _ => Tree.sat_leaf (by simp only [subPF]))
theorem negP_run (sF : Fp → Fp → Fp) (a : Fp) : plainRun (En [(112, Kff sF)]) rF 100 Try.f62 [vF a] = .leaf (some (sF zeroFp a)) := by kernel_rfl
def negPF (a : Fp) : Fp := subPF zeroFp a
theorem negP_ok : CallOk Try.prog 62 (Kf negPF) := P1 (En_ok (.cons subP_ok .nil)) Try.func62 (bodied Try.func62 (by kernel_rfl) (by kernel_rfl)) 100 (kRow Fp) rF negPF (negP_run subPF) (fun _ => Tree.sat_leaf (by simp only [negPF]))
theorem ofP_run (n : UInt64) : plainRun (En []) rF 100 Try.f71 [vU n] = .leaf (some (ofF n)) := by kernel_rfl
theorem ofP_ok : CallOk Try.prog 71 (K1 kU64.arg rF.res ofF) := P1 (En_ok .nil) Try.func71 (bodied Try.func71 (by kernel_rfl) (by kernel_rfl)) 100 kU64 rF ofF ofP_run (fun _ => Tree.sat_leaf rfl)

end Go.Proofs.Ytchlamfdofpolaa

/- The document's functions on numbers of limbs, part g: Montgomery's product. -/
set_option linter.unusedSimpArgs false
set_option linter.unusedVariables false
namespace Go.Proofs.Ytchlamfdofpolaa
open Go.RowKit

def rmL (x y t c : UInt64) : UInt64 := addS (addS t (x * y) false) c false
def rmH (x y t c : UInt64) : UInt64 := mulHi x y + b2u (addC t (x * y) false) + b2u (addC (addS t (x * y) false) c false)

theorem addS_comm (x y : UInt64) (c : Bool) : addS x y c = addS y x c := UInt64.toNat.inj (by rw [addS_nat, addS_nat, Nat.add_comm x.toNat])
theorem addC_comm (x y : UInt64) (c : Bool) : addC x y c = addC y x c := by
  have h1 := addC_nat x y c
  have h2 := addC_nat y x c
  rw [Nat.add_comm x.toNat, ← h2] at h1
  cases h3 : addC x y c <;> cases h4 : addC y x c <;> simp [h3, h4] at h1 <;> rfl
theorem rmL_eq (x y t c : UInt64) : rmL x y t c = macL x y t c := by unfold rmL macL; rw [addS_comm t]
theorem rmH_eq (x y t c : UInt64) : rmH x y t c = macH x y t c := by unfold rmH macH; rw [addS_comm t, addC_comm t]

/-- The lower half of a round: a multiple of the modulus, and a limb less. -/
def montB (m : Fp) (inv : UInt64) (t0 t1 t2 t3 t4 t5 top : UInt64) (more : Bool) : L7 :=
  let x := t0 * inv
  let d0 := mulHi x m.l0 + b2u (addC t0 (x * m.l0) false)
  let d1 := rmH x m.l1 t1 d0
  let d2 := rmH x m.l2 t2 d1
  let d3 := rmH x m.l3 t3 d2
  let d4 := rmH x m.l4 t4 d3
  let d5 := rmH x m.l5 t5 d4
  ⟨rmL x m.l1 t1 d0, rmL x m.l2 t2 d1, rmL x m.l3 t3 d2, rmL x m.l4 t4 d3, rmL x m.l5 t5 d4, addS top d5 false, b2u more + b2u (addC top d5 false)⟩

def montM (ai : UInt64) (b : Fp) (t : L7) : Bool :=
  let c0 := rmH ai b.l0 t.t0 0
  let c1 := rmH ai b.l1 t.t1 c0
  let c2 := rmH ai b.l2 t.t2 c1
  let c3 := rmH ai b.l3 t.t3 c2
  let c4 := rmH ai b.l4 t.t4 c3
  let c5 := rmH ai b.l5 t.t5 c4
  addC t.t6 c5 false

def montR (m : Fp) (inv : UInt64) (ai : UInt64) (b : Fp) (t : L7) : L7 :=
  let c0 := rmH ai b.l0 t.t0 0
  let c1 := rmH ai b.l1 t.t1 c0
  let c2 := rmH ai b.l2 t.t2 c1
  let c3 := rmH ai b.l3 t.t3 c2
  let c4 := rmH ai b.l4 t.t4 c3
  let c5 := rmH ai b.l5 t.t5 c4
  montB m inv (rmL ai b.l0 t.t0 0) (rmL ai b.l1 t.t1 c0) (rmL ai b.l2 t.t2 c1) (rmL ai b.l3 t.t3 c2) (rmL ai b.l4 t.t4 c3) (rmL ai b.l5 t.t5 c4) (addS t.t6 c5 false) (addC t.t6 c5 false)

noncomputable abbrev montC : List Code := flat (codeOf Try.f77)
noncomputable abbrev montO : Code := loopAt Try.f77 1
noncomputable abbrev montE (bF : Fp → Fp → Bool) : Env := En [(125, K2 kU64.arg kU64.arg (kU64.rs2 kU64).res fun x y => (mulHi x y, x * y)), (123, K3x addS addC), (53, K2 aS aS oB.res bF), (124, Ksub)]
theorem montE_ok : EnvOk (montE belowF) := En_ok (.cons mul64_ok (.cons add64_ok (.cons below_ok (.cons rsub_ok .nil))))

def slR (i n : Nat) : AV := .one (.c (.slc i 0 n 1 (.of 0) true))
def mSt (a b m : Fp) (inv : UInt64) (k : Nat) (t : List Cell) : St :=
  mkSt 222 [(0, slR 0 6), (1, slR 1 6), (2, slR 2 6), (7, litV 6), (8, vU inv), (10, slR 3 8), (11, litV k)] [.live ⟨false, 0, 1, .row (Row.cs a), false⟩, .live ⟨false, 0, 1, .row (Row.cs b), false⟩, .live ⟨false, 0, 1, .row (Row.cs m), false⟩, .live ⟨true, 22, 1, .row t, false⟩]
def mCut : X → Option (List Nat × List Nat) := same [0, 1, 2, 7, 8, 10, 11] [0, 1, 2, 3]
def eight (t : L7) (h : Bool) : List Cell := t.cs ++ [.bit h]

def newt (m x : UInt64) : UInt64 := x * (2 - m * x)
def montInv (m : UInt64) : UInt64 := 0 - newt m (newt m (newt m (newt m (newt m (newt m m)))))

set_option maxRecDepth 100000
theorem mont_start (bF : Fp → Fp → Bool) (a b m : Fp) : stageT (montE bF) 300 (montC.take 8) (startSt Try.f77 [iS.av 0 a, iS.av 1 b, iS.av 2 m] (iS.hes a ++ iS.hes b ++ iS.hes m)) [0, 1, 2, 7, 8, 10, 11] [0, 1, 2, 3] = .leaf (mSt a b m (montInv m.l0) 0 (zeros 8)) := by kernel_rfl
theorem mont_round0 (bF : Fp → Fp → Bool) (a b m : Fp) (inv : UInt64) : roundT (montE bF) 300 montO (mSt a b m inv 0 (zeros 8)) mCut = .leaf (.normal, mSt a b m inv 1 (eight (montR m inv a.l0 b ⟨0, 0, 0, 0, 0, 0, 0⟩) (montM a.l0 b ⟨0, 0, 0, 0, 0, 0, 0⟩))) := by kernel_rfl
theorem mont_round1 (bF : Fp → Fp → Bool) (a b m : Fp) (inv : UInt64) (t : L7) (h : Bool) : roundT (montE bF) 300 montO (mSt a b m inv 1 (eight t h)) mCut = .leaf (.normal, mSt a b m inv 2 (eight (montR m inv a.l1 b t) (montM a.l1 b t))) := by kernel_rfl
theorem mont_round2 (bF : Fp → Fp → Bool) (a b m : Fp) (inv : UInt64) (t : L7) (h : Bool) : roundT (montE bF) 300 montO (mSt a b m inv 2 (eight t h)) mCut = .leaf (.normal, mSt a b m inv 3 (eight (montR m inv a.l2 b t) (montM a.l2 b t))) := by kernel_rfl
theorem mont_round3 (bF : Fp → Fp → Bool) (a b m : Fp) (inv : UInt64) (t : L7) (h : Bool) : roundT (montE bF) 300 montO (mSt a b m inv 3 (eight t h)) mCut = .leaf (.normal, mSt a b m inv 4 (eight (montR m inv a.l3 b t) (montM a.l3 b t))) := by kernel_rfl
theorem mont_round4 (bF : Fp → Fp → Bool) (a b m : Fp) (inv : UInt64) (t : L7) (h : Bool) : roundT (montE bF) 300 montO (mSt a b m inv 4 (eight t h)) mCut = .leaf (.normal, mSt a b m inv 5 (eight (montR m inv a.l4 b t) (montM a.l4 b t))) := by kernel_rfl
theorem mont_round5 (bF : Fp → Fp → Bool) (a b m : Fp) (inv : UInt64) (t : L7) (h : Bool) : roundT (montE bF) 300 montO (mSt a b m inv 5 (eight t h)) mCut = .leaf (.normal, mSt a b m inv 6 (eight (montR m inv a.l5 b t) (montM a.l5 b t))) := by kernel_rfl
theorem mont_out (bF : Fp → Fp → Bool) (a b m : Fp) (inv : UInt64) (t : L7) (h : Bool) : roundT (montE bF) 300 montO (mSt a b m inv 6 (eight t h)) mCut = .leaf (.exit 2, mSt a b m inv 6 (eight t h)) := by kernel_rfl

def wrOk8 (m : Fp) : Prop := 0 < 8 ∧ 6 ≤ 8 ∧ 8 < 4294967296
def montT (bF : Fp → Fp → Bool) (m : Fp) (t : L7) : Tree (Option (Fp × Pr)) :=
  .br (t.t6 != 0) (.vc (wrOk8 m) (lfF (subT t.low m).1)) (.br (!(bF t.low m)) (.vc (wrOk8 m) (lfF (subT t.low m).1)) (lfF t.low))
theorem mont_end (bF : Fp → Fp → Bool) (a b m : Fp) (inv : UInt64) (t : L7) (h : Bool) : endT (montE bF) oSu 300 Try.f77 (montC.drop 9) (mSt a b m inv 6 (eight t h)) = montT bF m t := by kernel_rfl
def montE7 (m : Fp) (t : L7) : Fp := match t.t6 != 0 with
  | true => (subT t.low m).1
  | false => match !(belowF t.low m) with
    | true => (subT t.low m).1
    | false => t.low

def mont1 (a b m : Fp) : L7 := montR m (montInv m.l0) a.l0 b ⟨0, 0, 0, 0, 0, 0, 0⟩
def mont2 (a b m : Fp) : L7 := montR m (montInv m.l0) a.l1 b (mont1 a b m)
def mont3 (a b m : Fp) : L7 := montR m (montInv m.l0) a.l2 b (mont2 a b m)
def mont4 (a b m : Fp) : L7 := montR m (montInv m.l0) a.l3 b (mont3 a b m)
def mont5 (a b m : Fp) : L7 := montR m (montInv m.l0) a.l4 b (mont4 a b m)
def mont6 (a b m : Fp) : L7 := montR m (montInv m.l0) a.l5 b (mont5 a b m)
def montF (a b m : Fp) : Fp := montE7 m (mont6 a b m)

theorem montT_sat (m : Fp) (t : L7) : (montT belowF m t).sat fun q => ∃ p, q = some (montE7 m t, p) ∧ p.holds := by
  have w : wrOk8 m := ⟨by decide, by decide, by decide⟩
  refine ⟨fun h => ⟨w, fun _ => ?_⟩, fun h => ⟨fun h2 => ⟨w, fun _ => ?_⟩, fun h2 => ?_⟩⟩
  · exact reads_t (by unfold montE7; rw [h])
  · exact reads_t (by unfold montE7; rw [h, h2])
  · exact reads_t (by unfold montE7; rw [h, h2])

/-- Where the rounds are. -/
def mAt (a b m : Fp) (q : Fin 7 × Bool) : St :=
  match q.1 with
  | 0 => mSt a b m (montInv m.l0) 0 (zeros 8)
  | 1 => mSt a b m (montInv m.l0) 1 (eight (mont1 a b m) q.2)
  | 2 => mSt a b m (montInv m.l0) 2 (eight (mont2 a b m) q.2)
  | 3 => mSt a b m (montInv m.l0) 3 (eight (mont3 a b m) q.2)
  | 4 => mSt a b m (montInv m.l0) 4 (eight (mont4 a b m) q.2)
  | 5 => mSt a b m (montInv m.l0) 5 (eight (mont5 a b m) q.2)
  | 6 => mSt a b m (montInv m.l0) 6 (eight (mont6 a b m) q.2)

theorem mont_split : montC.drop 8 = .block 2 (.loop montO) :: montC.drop 9 := by kernel_rfl
theorem mont_ok : CallOk Try.prog 77 (K3 aS aS aS rSu montF) :=
  G3 (E := montE belowF) Try.func77 (c := codeOf Try.f77) (by kernel_rfl) (bodied Try.func77 (by kernel_rfl) (by kernel_rfl)) iS iS iS oSu montF fun a b m _ _ _ => by
    have hE := montE_ok
    refine DoesL.stageTo hE 300 8 _ _ (mont_start belowF a b m) ?_
    refine DoesL.blockLoop mont_split (mAt a b m) (fun q => 6 - q.1.1) (0, false) fun q => ?_
    obtain ⟨k, h⟩ := q
    match k with
    | 0 => exact Does.round hE 300 mCut (mont_round0 belowF a b m _) ⟨(1, montM a.l0 b ⟨0, 0, 0, 0, 0, 0, 0⟩), by show 6 - 1 < 6 - 0; decide, by simp only [mAt, mont1]⟩
    | 1 => exact Does.round hE 300 mCut (mont_round1 belowF a b m _ (mont1 a b m) h) ⟨(2, montM a.l1 b (mont1 a b m)), by show 6 - 2 < 6 - 1; decide, by simp only [mAt, mont2]⟩
    | 2 => exact Does.round hE 300 mCut (mont_round2 belowF a b m _ (mont2 a b m) h) ⟨(3, montM a.l2 b (mont2 a b m)), by show 6 - 3 < 6 - 2; decide, by simp only [mAt, mont3]⟩
    | 3 => exact Does.round hE 300 mCut (mont_round3 belowF a b m _ (mont3 a b m) h) ⟨(4, montM a.l3 b (mont3 a b m)), by show 6 - 4 < 6 - 3; decide, by simp only [mAt, mont4]⟩
    | 4 => exact Does.round hE 300 mCut (mont_round4 belowF a b m _ (mont4 a b m) h) ⟨(5, montM a.l4 b (mont4 a b m)), by show 6 - 5 < 6 - 4; decide, by simp only [mAt, mont5]⟩
    | 5 => exact Does.round hE 300 mCut (mont_round5 belowF a b m _ (mont5 a b m) h) ⟨(6, montM a.l5 b (mont5 a b m)), by show 6 - 6 < 6 - 5; decide, by simp only [mAt, mont6]⟩
    | 6 => exact Does.round hE 300 mCut (mont_out belowF a b m _ (mont6 a b m) h) ⟨rfl, DoesL.ends hE 300 (mont_end belowF a b m _ (mont6 a b m) h) (montT_sat m (mont6 a b m))⟩

theorem mulP_run (pF : Fp → Fp → Fp → Fp) (m a b : Fp) : plainRun (Ens [(77, K3s pF), (116, K0 rSu m), (117, Kfp ofL)] [77, 116]) rF 100 Try.f69 [vF a, vF b] = .leaf (some (pF (pF a b m) sqLimbs m)) := by kernel_rfl
def mulPF (a b : Fp) : Fp := montF (montF a b pLimbs) sqLimbs pLimbs
theorem mulP_ok : CallOk Try.prog 69 (Kff mulPF) := P2 (Ens_ok (.cons mont_ok (.cons refP_ok (.cons rfp_ok .nil)))) Try.func69 (bodied Try.func69 (by kernel_rfl) (by kernel_rfl)) 100 (kRow Fp) (kRow Fp) rF mulPF (mulP_run montF pLimbs) (fun _ _ => Tree.sat_leaf (by simp only [mulPF]))

end Go.Proofs.Ytchlamfdofpolaa

/- The document's base field: powers, inverses, roots. -/
set_option linter.unusedSimpArgs false
set_option linter.unusedVariables false
namespace Go.Proofs.Ytchlamfdofpolaa
open Go.RowKit

abbrev Kof' (F : UInt64 → Fp) : Contract := K1 kU64.arg rF.res F

/-! PowP -/
noncomputable abbrev powPC : List Code := flat (codeOf Try.f118)
noncomputable abbrev powPB : Code := loopAt Try.f118 0
noncomputable abbrev powPE (oF' : UInt64 → Fp) (mF : Fp → Fp → Fp) (bF : List UInt64 → Nat → UInt64) : Env := En [(71, Kof' oF'), (69, Kff mF), (142, K2 aL argIdx kU64.rs.res bF)]
theorem powPE_ok : EnvOk (powPE ofF mulPF bitF) := En_ok (.cons ofP_ok (.cons mulP_ok (.cons bit_ok .nil)))
def powPSt (e : List UInt64) (a x : Fp) (z : Int) : St := mkSt 27 [(1, inV 0 e), (2, ptrV 1), (4, ptrV 2), (5, ptrV 3), (6, vI z)] [inHE eU64 e, own 28 (Row.cs a), own 28 (zeros 6), own 28 (Row.cs x)]
theorem powP_start (oF' : UInt64 → Fp) (mF : Fp → Fp → Fp) (bF : List UInt64 → Nat → UInt64) (a : Fp) (e : List UInt64) : stageT (powPE oF' mF bF) 100 (powPC.take 3) (startSt Try.f118 [vF a, iL.av 0 e] [inHE eU64 e]) [1, 2, 4, 5, 6] [0, 1, 2, 3] =
  (.vc (0 + e.length * 1 ≤ (List.map EK.u64.cell e).length ∧ 0 < 1)
    (.leaf (mkSt 27 [(1, .one (.c (.slc 0 0 (e.length) 1 (.of 0) false))), (2, .one (.c (.ptr 1 0))), (4, .one (.c (.ptr 2 0))), (5, .one (.c (.ptr 3 0))), (6, .one (.c (.int .i64 (IntKind.i64.wrap (IntKind.i64.wrap (64 * (↑e.length : Int)) - 1)))))] [.live ⟨false, 0, 1, (.elts .u64 (e : List UInt64)), false⟩, .live ⟨true, 28, 0, (.row (Row.cs (a : Fp))), false⟩, .live ⟨true, 28, 0, (.row [(.lit .u64 0), (.lit .u64 0), (.lit .u64 0), (.lit .u64 0), (.lit .u64 0), (.lit .u64 0)]), false⟩, .live ⟨true, 28, 0, (.row (Row.cs (oF' (UInt64.ofNat 1) : Fp))), false⟩]))) := by kernel_rfl
theorem powP_round (oF' : UInt64 → Fp) (mF : Fp → Fp → Fp) (bF : List UInt64 → Nat → UInt64) (a x : Fp) (e : List UInt64) (z : Int) : roundT (powPE oF' mF bF) 100 powPB (powPSt e a x z) (same [1, 2, 4, 5, 6] [0, 1, 2, 3]) =
  (.br (decide (z ≥ 0))
    (.vc ((0 + e.length ≤ e.length ∧ e.length < 1125899906842624 ∧ 0 = 0 ∧ 1 = 1) ∧ 0 ≤ z ∧ z < 9223372036854775808)
      (.br (bF (List.take e.length (List.drop 0 e)) z.toNat == UInt64.ofNat 1)
        (.leaf ((.normal, mkSt 27 [(1, .one (.c (.slc 0 0 (e.length) 1 (.of 0) false))), (2, .one (.c (.ptr 1 0))), (4, .one (.c (.ptr 2 0))), (5, .one (.c (.ptr 3 0))), (6, .one (.c (.int .i64 (IntKind.i64.wrap (z - 1)))))] [.live ⟨false, 0, 1, (.elts .u64 (e : List UInt64)), false⟩, .live ⟨true, 28, 0, (.row (Row.cs (a : Fp))), false⟩, .live ⟨true, 28, 0, (.row [(.lit .u64 0), (.lit .u64 0), (.lit .u64 0), (.lit .u64 0), (.lit .u64 0), (.lit .u64 0)]), false⟩, .live ⟨true, 28, 0, (.row (Row.cs (mF (mF x x) a : Fp))), false⟩])))
        (.leaf ((.normal, mkSt 27 [(1, .one (.c (.slc 0 0 (e.length) 1 (.of 0) false))), (2, .one (.c (.ptr 1 0))), (4, .one (.c (.ptr 2 0))), (5, .one (.c (.ptr 3 0))), (6, .one (.c (.int .i64 (IntKind.i64.wrap (z - 1)))))] [.live ⟨false, 0, 1, (.elts .u64 (e : List UInt64)), false⟩, .live ⟨true, 28, 0, (.row (Row.cs (a : Fp))), false⟩, .live ⟨true, 28, 0, (.row [(.lit .u64 0), (.lit .u64 0), (.lit .u64 0), (.lit .u64 0), (.lit .u64 0), (.lit .u64 0)]), false⟩, .live ⟨true, 28, 0, (.row (Row.cs (mF x x : Fp))), false⟩])))))
    (.leaf ((.exit 0, mkSt 27 [(1, .one (.c (.slc 0 0 (e.length) 1 (.of 0) false))), (2, .one (.c (.ptr 1 0))), (4, .one (.c (.ptr 2 0))), (5, .one (.c (.ptr 3 0))), (6, .one (.c (.int .i64 (z))))] [.live ⟨false, 0, 1, (.elts .u64 (e : List UInt64)), false⟩, .live ⟨true, 28, 0, (.row (Row.cs (a : Fp))), false⟩, .live ⟨true, 28, 0, (.row [(.lit .u64 0), (.lit .u64 0), (.lit .u64 0), (.lit .u64 0), (.lit .u64 0), (.lit .u64 0)]), false⟩, .live ⟨true, 28, 0, (.row (Row.cs (x : Fp))), false⟩])))) := by kernel_rfl
theorem powP_end (oF' : UInt64 → Fp) (mF : Fp → Fp → Fp) (bF : List UInt64 → Nat → UInt64) (a x : Fp) (e : List UInt64) (z : Int) : endT (powPE oF' mF bF) oF 100 Try.f118 (powPC.drop 4) (powPSt e a x z) =
  (.leaf (some ((x, .t)))) := by kernel_rfl

def powPAt (a : Fp) (e : List UInt64) : Nat → Fp → Fp
  | 0, x => x
  | n + 1, x => powPAt a e n (match bitAt e n with | true => mulPF (mulPF x x) a | false => mulPF x x)
def powPF (a : Fp) (e : List UInt64) : Fp := powPAt a e (64 * e.length) (ofF 1)

abbrev PowPOk (a : Fp) (e : List UInt64) : Type := { q : Int × Fp // -1 ≤ q.1 ∧ q.1 < 64 * e.length ∧ powPAt a e (q.1 + 1).toNat q.2 = powPF a e }

theorem powP_ok : CallOk Try.prog 118 (K2 (kRow Fp).arg aL rF.res powPF) :=
  G2 (E := powPE ofF mulPF bitF) Try.func118 (c := codeOf Try.f118) (by kernel_rfl) (bodied Try.func118 (by kernel_rfl) (by kernel_rfl)) (kRow Fp).inp iL oF powPF fun a e _ he => by
    have he : e.length < 1125899906842624 := he
    have hE := powPE_ok
    refine DoesL.stageE hE 100 3 _ _ (powP_start ofF mulPF bitF a e) ⟨vcLen e, fun _ => ?_⟩
    have hw : IntKind.i64.wrap (IntKind.i64.wrap (64 * (e.length : Int)) - 1) = 64 * (e.length : Int) - 1 := by rw [IntWalk.i64_in (64 * (e.length : Int)) (by omega), IntWalk.i64_in _ (by omega)]
    rw [hw]
    refine DoesL.blockLoop (B := powPB) (rest := powPC.drop 4) (id := 0) (by kernel_rfl) (fun q : PowPOk a e => powPSt e a q.1.2 q.1.1) (fun q => (q.1.1 + 1).toNat) ⟨(64 * (e.length : Int) - 1, ofF 1), by simp only []; omega, by simp only []; omega, by
      simp only []
      rw [show (64 * (e.length : Int) - 1 + 1).toNat = 64 * e.length by omega]
      rfl⟩ fun q => ?_
    obtain ⟨⟨z, x⟩, h0, h1, h2⟩ := q
    simp only [] at h0 h1 h2
    show Does _ _ (powPSt e a x z) _
    refine Does.round hE 100 _ (powP_round ofF mulPF bitF a x e z) ⟨fun h => ?_, fun h => ?_⟩
    · simp only [ge_iff_le, decide_eq_true_eq] at h
      obtain ⟨n, rfl⟩ : ∃ n : Nat, z = (n : Int) := ⟨z.toNat, by omega⟩
      rw [wrap_pred n (by omega), whole, Int.toNat_natCast]
      rw [show ((n : Int) + 1).toNat = n + 1 by omega] at h2
      simp only [powPAt] at h2
      have hb : (bitF e n == UInt64.ofNat 1) = bitAt e n := by
        unfold bitF
        cases bitAt e n <;> rfl
      rw [hb]
      refine ⟨⟨okL' he, by omega, by omega⟩, fun _ => ⟨fun h3 => ?_, fun h3 => ?_⟩⟩
      all_goals
        have hn : ((n : Int) - 1 + 1).toNat = n := by omega
        rw [h3] at h2
        simp only [] at h2
      · refine ⟨⟨((n : Int) - 1, mulPF (mulPF x x) a), ?_, ?_, ?_⟩, ?_, ?_⟩
        · show -1 ≤ (n : Int) - 1; omega
        · show (n : Int) - 1 < 64 * e.length; omega
        · simpa only [hn] using h2
        · show ((n : Int) - 1 + 1).toNat < ((n : Int) + 1).toNat; omega
        · kernel_rfl
      · refine ⟨⟨((n : Int) - 1, mulPF x x), ?_, ?_, ?_⟩, ?_, ?_⟩
        · show -1 ≤ (n : Int) - 1; omega
        · show (n : Int) - 1 < 64 * e.length; omega
        · simpa only [hn] using h2
        · show ((n : Int) - 1 + 1).toNat < ((n : Int) + 1).toNat; omega
        · kernel_rfl
    · simp only [ge_iff_le, decide_eq_false_iff_not] at h
      obtain rfl : z = -1 := by omega
      exact ⟨rfl, DoesL.ends hE 100 (powP_end ofF mulPF bitF a x e (-1)) (reads_t (by
        rw [show ((-1 : Int) + 1).toNat = 0 from rfl] at h2
        simp only [powPAt] at h2
        exact h2))⟩

/-! InvP, GreatP, SqrtP -/
abbrev Kpow' (F : Fp → List UInt64 → Fp) : Contract := K2 (kRow Fp).arg aL rF.res F
noncomputable abbrev invPE (m : Fp) (lF : List UInt64 → List UInt64 → List UInt64 × Int) (pF : Fp → List UInt64 → Fp) : Env := Ens [(116, K0 rSu m), (139, K2 aLt aLt rLI lF), (118, Kpow' pF)] [116, 139]
theorem invP_run (m : Fp) (lF : List UInt64 → List UInt64 → List UInt64 × Int) (pF : Fp → List UInt64 → Fp) (a : Fp) : plainRun (invPE m lF pF) rFI 100 Try.f106 [vF a] =
  (.br (fpEq (a) ({ l0 := UInt64.ofNat 0, l1 := UInt64.ofNat 0, l2 := UInt64.ofNat 0, l3 := UInt64.ofNat 0, l4 := UInt64.ofNat 0, l5 := UInt64.ofNat 0 }))
    (.leaf (some ((a, 7))))
    (.vc (tiny [m.l0, m.l1, m.l2, m.l3, m.l4, m.l5] ∧ tiny [UInt64.ofNat 2])
      (.vc (0 + (lF [m.l0, m.l1, m.l2, m.l3, m.l4, m.l5] [UInt64.ofNat 2]).fst.length ≤ (lF [m.l0, m.l1, m.l2, m.l3, m.l4, m.l5] [UInt64.ofNat 2]).fst.length ∧ (lF [m.l0, m.l1, m.l2, m.l3, m.l4, m.l5] [UInt64.ofNat 2]).fst.length < 1125899906842624 ∧ 0 = 0 ∧ 1 = 1)
        (.leaf (some ((pF a (List.take (lF [m.l0, m.l1, m.l2, m.l3, m.l4, m.l5] [UInt64.ofNat 2]).fst.length (List.drop 0 (lF [m.l0, m.l1, m.l2, m.l3, m.l4, m.l5] [UInt64.ofNat 2]).fst)), 0))))))) := by kernel_rfl
noncomputable abbrev greatPE (m : Fp) (hF : List UInt64 → List UInt64) (cF : List UInt64 → List UInt64 → Int) : Env := Ens [(116, K0 rSu m), (119, K1 aLt rL hF), (145, K2 aLc aLc kInt.rs.res cF)] [116, 119]
theorem greatP_run (m : Fp) (hF : List UInt64 → List UInt64) (cF : List UInt64 → List UInt64 → Int) (a : Fp) : plainRun (greatPE m hF cF) kBool.rs 100 Try.f121 [vF a] =
  (.vc (tiny [m.l0, m.l1, m.l2, m.l3, m.l4, m.l5])
    (.vc (short [a.l0, a.l1, a.l2, a.l3, a.l4, a.l5] ∧ (0 + (hF [m.l0, m.l1, m.l2, m.l3, m.l4, m.l5]).length ≤ (hF [m.l0, m.l1, m.l2, m.l3, m.l4, m.l5]).length ∧ (hF [m.l0, m.l1, m.l2, m.l3, m.l4, m.l5]).length < 1125899906842624 ∧ 0 = 0 ∧ 1 = 1) ∧ short (List.take (hF [m.l0, m.l1, m.l2, m.l3, m.l4, m.l5]).length (List.drop 0 (hF [m.l0, m.l1, m.l2, m.l3, m.l4, m.l5]))))
      (.leaf (some ((decide (cF [a.l0, a.l1, a.l2, a.l3, a.l4, a.l5] (List.take (hF [m.l0, m.l1, m.l2, m.l3, m.l4, m.l5]).length (List.drop 0 (hF [m.l0, m.l1, m.l2, m.l3, m.l4, m.l5]))) > 0))))))) := by kernel_rfl
noncomputable abbrev sqrtPE (m : Fp) (hF : List UInt64 → List UInt64) (sF : List UInt64 → List UInt64 → List UInt64) (pF : Fp → List UInt64 → Fp) (mF : Fp → Fp → Fp) (gF : Fp → Bool) (nF : Fp → Fp) : Env :=
  Ens [(116, K0 rSu m), (119, K1 aLt rL hF), (120, K2 aLt aLt rL sF), (118, Kpow' pF), (69, Kff mF), (121, K1 (kRow Fp).arg kBool.rs.res gF), (62, Kf nF)]
    [116, 119, 120]
theorem sqrtP_run (m : Fp) (hF : List UInt64 → List UInt64) (sF : List UInt64 → List UInt64 → List UInt64) (pF : Fp → List UInt64 → Fp) (mF : Fp → Fp → Fp) (gF : Fp → Bool) (nF : Fp → Fp) (a : Fp) : plainRun (sqrtPE m hF sF pF mF gF nF) rFB 100 Try.f72 [vF a] =
  (.vc (tiny [m.l0, m.l1, m.l2, m.l3, m.l4, m.l5] ∧ tiny [UInt64.ofNat 1])
    (.vc ((0 + (sF [m.l0, m.l1, m.l2, m.l3, m.l4, m.l5] [UInt64.ofNat 1]).length ≤ (sF [m.l0, m.l1, m.l2, m.l3, m.l4, m.l5] [UInt64.ofNat 1]).length ∧ (sF [m.l0, m.l1, m.l2, m.l3, m.l4, m.l5] [UInt64.ofNat 1]).length < 1125899906842624 ∧ 0 = 0 ∧ 1 = 1) ∧ tiny (List.take (sF [m.l0, m.l1, m.l2, m.l3, m.l4, m.l5] [UInt64.ofNat 1]).length (List.drop 0 (sF [m.l0, m.l1, m.l2, m.l3, m.l4, m.l5] [UInt64.ofNat 1]))))
      (.vc ((0 + (hF (List.take (sF [m.l0, m.l1, m.l2, m.l3, m.l4, m.l5] [UInt64.ofNat 1]).length (List.drop 0 (sF [m.l0, m.l1, m.l2, m.l3, m.l4, m.l5] [UInt64.ofNat 1])))).length ≤ (hF (List.take (sF [m.l0, m.l1, m.l2, m.l3, m.l4, m.l5] [UInt64.ofNat 1]).length (List.drop 0 (sF [m.l0, m.l1, m.l2, m.l3, m.l4, m.l5] [UInt64.ofNat 1])))).length ∧ (hF (List.take (sF [m.l0, m.l1, m.l2, m.l3, m.l4, m.l5] [UInt64.ofNat 1]).length (List.drop 0 (sF [m.l0, m.l1, m.l2, m.l3, m.l4, m.l5] [UInt64.ofNat 1])))).length < 1125899906842624 ∧ 0 = 0 ∧ 1 = 1) ∧ tiny (List.take (hF (List.take (sF [m.l0, m.l1, m.l2, m.l3, m.l4, m.l5] [UInt64.ofNat 1]).length (List.drop 0 (sF [m.l0, m.l1, m.l2, m.l3, m.l4, m.l5] [UInt64.ofNat 1])))).length (List.drop 0 (hF (List.take (sF [m.l0, m.l1, m.l2, m.l3, m.l4, m.l5] [UInt64.ofNat 1]).length (List.drop 0 (sF [m.l0, m.l1, m.l2, m.l3, m.l4, m.l5] [UInt64.ofNat 1])))))))
        (.vc (0 + (hF (List.take (hF (List.take (sF [m.l0, m.l1, m.l2, m.l3, m.l4, m.l5] [UInt64.ofNat 1]).length (List.drop 0 (sF [m.l0, m.l1, m.l2, m.l3, m.l4, m.l5] [UInt64.ofNat 1])))).length (List.drop 0 (hF (List.take (sF [m.l0, m.l1, m.l2, m.l3, m.l4, m.l5] [UInt64.ofNat 1]).length (List.drop 0 (sF [m.l0, m.l1, m.l2, m.l3, m.l4, m.l5] [UInt64.ofNat 1]))))))).length ≤ (hF (List.take (hF (List.take (sF [m.l0, m.l1, m.l2, m.l3, m.l4, m.l5] [UInt64.ofNat 1]).length (List.drop 0 (sF [m.l0, m.l1, m.l2, m.l3, m.l4, m.l5] [UInt64.ofNat 1])))).length (List.drop 0 (hF (List.take (sF [m.l0, m.l1, m.l2, m.l3, m.l4, m.l5] [UInt64.ofNat 1]).length (List.drop 0 (sF [m.l0, m.l1, m.l2, m.l3, m.l4, m.l5] [UInt64.ofNat 1]))))))).length ∧ (hF (List.take (hF (List.take (sF [m.l0, m.l1, m.l2, m.l3, m.l4, m.l5] [UInt64.ofNat 1]).length (List.drop 0 (sF [m.l0, m.l1, m.l2, m.l3, m.l4, m.l5] [UInt64.ofNat 1])))).length (List.drop 0 (hF (List.take (sF [m.l0, m.l1, m.l2, m.l3, m.l4, m.l5] [UInt64.ofNat 1]).length (List.drop 0 (sF [m.l0, m.l1, m.l2, m.l3, m.l4, m.l5] [UInt64.ofNat 1]))))))).length < 1125899906842624 ∧ 0 = 0 ∧ 1 = 1)
          (.br (!(fpEq (mF (pF a (List.take (hF (List.take (hF (List.take (sF [m.l0, m.l1, m.l2, m.l3, m.l4, m.l5] [UInt64.ofNat 1]).length (List.drop 0 (sF [m.l0, m.l1, m.l2, m.l3, m.l4, m.l5] [UInt64.ofNat 1])))).length (List.drop 0 (hF (List.take (sF [m.l0, m.l1, m.l2, m.l3, m.l4, m.l5] [UInt64.ofNat 1]).length (List.drop 0 (sF [m.l0, m.l1, m.l2, m.l3, m.l4, m.l5] [UInt64.ofNat 1]))))))).length (List.drop 0 (hF (List.take (hF (List.take (sF [m.l0, m.l1, m.l2, m.l3, m.l4, m.l5] [UInt64.ofNat 1]).length (List.drop 0 (sF [m.l0, m.l1, m.l2, m.l3, m.l4, m.l5] [UInt64.ofNat 1])))).length (List.drop 0 (hF (List.take (sF [m.l0, m.l1, m.l2, m.l3, m.l4, m.l5] [UInt64.ofNat 1]).length (List.drop 0 (sF [m.l0, m.l1, m.l2, m.l3, m.l4, m.l5] [UInt64.ofNat 1])))))))))) (pF a (List.take (hF (List.take (hF (List.take (sF [m.l0, m.l1, m.l2, m.l3, m.l4, m.l5] [UInt64.ofNat 1]).length (List.drop 0 (sF [m.l0, m.l1, m.l2, m.l3, m.l4, m.l5] [UInt64.ofNat 1])))).length (List.drop 0 (hF (List.take (sF [m.l0, m.l1, m.l2, m.l3, m.l4, m.l5] [UInt64.ofNat 1]).length (List.drop 0 (sF [m.l0, m.l1, m.l2, m.l3, m.l4, m.l5] [UInt64.ofNat 1]))))))).length (List.drop 0 (hF (List.take (hF (List.take (sF [m.l0, m.l1, m.l2, m.l3, m.l4, m.l5] [UInt64.ofNat 1]).length (List.drop 0 (sF [m.l0, m.l1, m.l2, m.l3, m.l4, m.l5] [UInt64.ofNat 1])))).length (List.drop 0 (hF (List.take (sF [m.l0, m.l1, m.l2, m.l3, m.l4, m.l5] [UInt64.ofNat 1]).length (List.drop 0 (sF [m.l0, m.l1, m.l2, m.l3, m.l4, m.l5] [UInt64.ofNat 1]))))))))))) (a)))
            (.leaf (some (({ l0 := UInt64.ofNat 0, l1 := UInt64.ofNat 0, l2 := UInt64.ofNat 0, l3 := UInt64.ofNat 0, l4 := UInt64.ofNat 0, l5 := UInt64.ofNat 0 }, false))))
            (.br (gF (pF a (List.take (hF (List.take (hF (List.take (sF [m.l0, m.l1, m.l2, m.l3, m.l4, m.l5] [UInt64.ofNat 1]).length (List.drop 0 (sF [m.l0, m.l1, m.l2, m.l3, m.l4, m.l5] [UInt64.ofNat 1])))).length (List.drop 0 (hF (List.take (sF [m.l0, m.l1, m.l2, m.l3, m.l4, m.l5] [UInt64.ofNat 1]).length (List.drop 0 (sF [m.l0, m.l1, m.l2, m.l3, m.l4, m.l5] [UInt64.ofNat 1]))))))).length (List.drop 0 (hF (List.take (hF (List.take (sF [m.l0, m.l1, m.l2, m.l3, m.l4, m.l5] [UInt64.ofNat 1]).length (List.drop 0 (sF [m.l0, m.l1, m.l2, m.l3, m.l4, m.l5] [UInt64.ofNat 1])))).length (List.drop 0 (hF (List.take (sF [m.l0, m.l1, m.l2, m.l3, m.l4, m.l5] [UInt64.ofNat 1]).length (List.drop 0 (sF [m.l0, m.l1, m.l2, m.l3, m.l4, m.l5] [UInt64.ofNat 1])))))))))))
              (.leaf (some ((nF (pF a (List.take (hF (List.take (hF (List.take (sF [m.l0, m.l1, m.l2, m.l3, m.l4, m.l5] [UInt64.ofNat 1]).length (List.drop 0 (sF [m.l0, m.l1, m.l2, m.l3, m.l4, m.l5] [UInt64.ofNat 1])))).length (List.drop 0 (hF (List.take (sF [m.l0, m.l1, m.l2, m.l3, m.l4, m.l5] [UInt64.ofNat 1]).length (List.drop 0 (sF [m.l0, m.l1, m.l2, m.l3, m.l4, m.l5] [UInt64.ofNat 1]))))))).length (List.drop 0 (hF (List.take (hF (List.take (sF [m.l0, m.l1, m.l2, m.l3, m.l4, m.l5] [UInt64.ofNat 1]).length (List.drop 0 (sF [m.l0, m.l1, m.l2, m.l3, m.l4, m.l5] [UInt64.ofNat 1])))).length (List.drop 0 (hF (List.take (sF [m.l0, m.l1, m.l2, m.l3, m.l4, m.l5] [UInt64.ofNat 1]).length (List.drop 0 (sF [m.l0, m.l1, m.l2, m.l3, m.l4, m.l5] [UInt64.ofNat 1])))))))))), true))))
              (.leaf (some ((pF a (List.take (hF (List.take (hF (List.take (sF [m.l0, m.l1, m.l2, m.l3, m.l4, m.l5] [UInt64.ofNat 1]).length (List.drop 0 (sF [m.l0, m.l1, m.l2, m.l3, m.l4, m.l5] [UInt64.ofNat 1])))).length (List.drop 0 (hF (List.take (sF [m.l0, m.l1, m.l2, m.l3, m.l4, m.l5] [UInt64.ofNat 1]).length (List.drop 0 (sF [m.l0, m.l1, m.l2, m.l3, m.l4, m.l5] [UInt64.ofNat 1]))))))).length (List.drop 0 (hF (List.take (hF (List.take (sF [m.l0, m.l1, m.l2, m.l3, m.l4, m.l5] [UInt64.ofNat 1]).length (List.drop 0 (sF [m.l0, m.l1, m.l2, m.l3, m.l4, m.l5] [UInt64.ofNat 1])))).length (List.drop 0 (hF (List.take (sF [m.l0, m.l1, m.l2, m.l3, m.l4, m.l5] [UInt64.ofNat 1]).length (List.drop 0 (sF [m.l0, m.l1, m.l2, m.l3, m.l4, m.l5] [UInt64.ofNat 1]))))))))), true)))))))))) := by kernel_rfl

theorem cutF_len (xs : List UInt64) : (cutF xs).length ≤ xs.length := by unfold cutF; rw [List.length_take]; omega
theorem rless_len (xs ys : List UInt64) : (rlessF xs ys).1.length ≤ max xs.length ys.length := by
  unfold rlessF
  split
  · simp
  · have h := cutF_len (subAt xs ys (max xs.length ys.length)).1
    rw [subAt_len] at h
    exact h
theorem sum_len (xs ys : List UInt64) : (sumF xs ys).length ≤ max xs.length ys.length + 1 := by
  have h := cutF_len ((addAt xs ys (max xs.length ys.length)).1 ++ [b2u (addAt xs ys (max xs.length ys.length)).2])
  rw [List.length_append, addAt_len] at h
  exact h
theorem rhalf_len (xs : List UInt64) : (rhalfF xs).length = xs.length := halfAt_len xs _
theorem pList_len : pLimbs.list.length = 6 := rfl
theorem fp_short (a : Fp) : a.list.length = 6 := rfl

def pm2 : List UInt64 := (rlessF pLimbs.list [2]).1
def invPF (a : Fp) : Fp × Int := match fpEq a zeroFp with | true => (a, 7) | false => (powPF a pm2, 0)
theorem pm2_len : pm2.length ≤ 6 := rless_len pLimbs.list [2]
theorem invP_ok : CallOk Try.prog 106 (K1 (kRow Fp).arg rFI.res invPF) :=
  P1 (E := invPE pLimbs rlessF powPF) (Ens_ok (.cons refP_ok (.cons rless_ok (.cons powP_ok .nil)))) Try.func106 (bodied Try.func106 (by kernel_rfl) (by kernel_rfl)) 100 (kRow Fp) rFI invPF (invP_run pLimbs rlessF powPF)
    (fun a => by
      refine ⟨fun h => ?_, fun h => ⟨⟨?_, ?_⟩, fun _ => ⟨okL' ?_, fun _ => ?_⟩⟩⟩
      · have h : fpEq a zeroFp = true := h
        exact congrArg some (by unfold invPF; rw [h])
      · show pLimbs.list.length < _; rw [pList_len]; decide
      · show 1 < 4294967296; decide
      · exact Nat.lt_of_le_of_lt pm2_len (by decide)
      · have h : fpEq a zeroFp = false := h
        rw [whole]
        exact congrArg some (by unfold invPF; rw [h]; rfl))

def greatPF (a : Fp) : Bool := decide (cmpR a.list (rhalfF pLimbs.list) > 0)
theorem halfP_len : (rhalfF pLimbs.list).length = 6 := rhalf_len pLimbs.list
theorem greatP_ok : CallOk Try.prog 121 (K1 (kRow Fp).arg kBool.rs.res greatPF) :=
  P1 (E := greatPE pLimbs rhalfF cmpR) (Ens_ok (.cons refP_ok (.cons rhalf_ok (.cons rcmp_ok .nil)))) Try.func121 (bodied Try.func121 (by kernel_rfl) (by kernel_rfl)) 100 (kRow Fp) kBool.rs greatPF (greatP_run pLimbs rhalfF cmpR)
    (fun a => by
      refine ⟨?_, fun _ => ⟨⟨?_, okC ?_⟩, fun _ => ?_⟩⟩
      · show pLimbs.list.length < _; rw [pList_len]; decide
      · show a.list.length < _; rw [fp_short]; decide
      · exact Nat.lt_of_le_of_lt (Nat.le_of_eq halfP_len) (by decide)
      · rw [whole]; rfl)

def rootL : List UInt64 := rhalfF (rhalfF (sumF pLimbs.list [1]))
def sqrtPF (a : Fp) : Fp × Bool := sqrtG negPF mulPF greatPF (powPF a rootL) a
theorem sqrtP_sat (m : List UInt64) (hm : m.length = 6) (hF : List UInt64 → List UInt64) (hh : ∀ x, (hF x).length = x.length) (sF : List UInt64 → List UInt64 → List UInt64) (hs : ∀ x y, (sF x y).length ≤ max x.length y.length + 1) :
    (tiny m ∧ tiny [UInt64.ofNat 1]) ∧ ((0 + (sF m [UInt64.ofNat 1]).length ≤ (sF m [UInt64.ofNat 1]).length ∧ (sF m [UInt64.ofNat 1]).length < 1125899906842624 ∧ 0 = 0 ∧ 1 = 1) ∧ tiny (List.take (sF m [UInt64.ofNat 1]).length (List.drop 0 (sF m [UInt64.ofNat 1])))) ∧
    ((0 + (hF (sF m [1])).length ≤ (hF (sF m [1])).length ∧ (hF (sF m [1])).length < 1125899906842624 ∧ 0 = 0 ∧ 1 = 1) ∧ tiny (List.take (hF (sF m [1])).length (List.drop 0 (hF (sF m [1]))))) ∧
    (hF (hF (sF m [1]))).length < 1125899906842624 := by
  have h1 := hs m [UInt64.ofNat 1]
  have h1' : (sF m [UInt64.ofNat 1]).length ≤ 7 := by rw [hm] at h1; exact h1
  have h2 := hh (sF m [1])
  have h3 := hh (hF (sF m [1]))
  refine ⟨⟨by show m.length < _; omega, by show 1 < 4294967296; omega⟩, okT ?_, okT ?_, ?_⟩
  · omega
  · have : (sF m [1]).length ≤ 7 := h1'
    omega
  · have : (sF m [1]).length ≤ 7 := h1'
    omega
theorem sqrtP_ok : CallOk Try.prog 72 (K1 (kRow Fp).arg rFB.res sqrtPF) :=
  P1 (E := sqrtPE pLimbs rhalfF sumF powPF mulPF greatPF negPF) (Ens_ok (.cons refP_ok (.cons rhalf_ok (.cons rsum_ok (.cons powP_ok (.cons mulP_ok (.cons greatP_ok (.cons negP_ok .nil)))))))) Try.func72 (bodied Try.func72 (by kernel_rfl) (by kernel_rfl)) 100 (kRow Fp) rFB sqrtPF (sqrtP_run pLimbs rhalfF sumF powPF mulPF greatPF negPF)
    (fun a => by
      obtain ⟨h1, h2, h3, h4⟩ := sqrtP_sat pLimbs.list pList_len rhalfF rhalf_len sumF sum_len
      refine ⟨h1, fun _ => ⟨h2, fun _ => ?_⟩⟩
      rw [whole]
      refine ⟨h3, fun _ => ?_⟩
      rw [whole]
      refine ⟨okL' h4, fun _ => ?_⟩
      rw [whole]
      exact sqrtT_sat negPF mulPF greatPF (powPF a rootL) a)

end Go.Proofs.Ytchlamfdofpolaa
