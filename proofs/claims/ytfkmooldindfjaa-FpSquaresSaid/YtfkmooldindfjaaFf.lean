/- The base field's functions, part f: May, Great, powers. -/
import Derived.Test.YtfkmooldindfjaaFe
set_option linter.unusedSimpArgs false
set_option linter.unusedVariables false
namespace Go.Proofs.Ytfkmooldindfjaa
open Go.RowKit

def Fp.list (a : Fp) : List UInt64 := [a.l0, a.l1, a.l2, a.l3, a.l4, a.l5]

def halvedF (a : Fp) : Fp := ⟨shrU a.l0 1 ||| shlU a.l1 63, shrU a.l1 1 ||| shlU a.l2 63, shrU a.l2 1 ||| shlU a.l3 63, shrU a.l3 1 ||| shlU a.l4 63, shrU a.l4 1 ||| shlU a.l5 63, shrU a.l5 1⟩
theorem halved_run (a : Fp) : plainRun (En []) rF 100 Try.f41 [vF a] = .leaf (some (halvedF a)) := by kernel_rfl
theorem halved_ok : CallOk Try.prog 41 (Kf halvedF) := P1 (En_ok .nil) Try.func41 (bodied Try.func41 (by kernel_rfl) (by kernel_rfl)) 100 (kRow Fp) rF halvedF halved_run (fun _ => Tree.sat_leaf rfl)

abbrev Kcmp (cF : List UInt64 → List UInt64 → Int) : Contract := K2 aL aL kInt.rs.res cF

def mayF (a : Fp) : Bool := decide (cmpF a.list pLimbs.list < 0)
theorem may_run (cF : List UInt64 → List UInt64 → Int) (m a : Fp) : plainRun (En [(49, Kcmp cF), (40, Kc m)]) kBool.rs 100 Try.f24 [vF a] = .leaf (some (decide (cF a.list m.list < 0))) := by kernel_rfl
theorem may_ok : CallOk Try.prog 24 (K1 (kRow Fp).arg kBool.rs.res mayF) := P1 (En_ok (.cons cmp_ok (.cons modulus_ok .nil))) Try.func24 (bodied Try.func24 (by kernel_rfl) (by kernel_rfl)) 100 (kRow Fp) kBool.rs mayF (may_run cmpF pLimbs) (fun _ => Tree.sat_leaf (by simp only [mayF]))

def greatF (a : Fp) : Bool := decide (cmpF a.list (halvedF pLimbs).list > 0)
theorem great_run (cF : List UInt64 → List UInt64 → Int) (hF : Fp → Fp) (m a : Fp) : plainRun (En [(49, Kcmp cF), (40, Kc m), (41, Kf hF)]) kBool.rs 100 Try.f20 [vF a] = .leaf (some (decide (cF a.list (hF m).list > 0))) := by kernel_rfl
theorem great_ok : CallOk Try.prog 20 (K1 (kRow Fp).arg kBool.rs.res greatF) :=
  P1 (En_ok (.cons cmp_ok (.cons modulus_ok (.cons halved_ok .nil)))) Try.func20 (bodied Try.func20 (by kernel_rfl) (by kernel_rfl)) 100 (kRow Fp) kBool.rs greatF (great_run cmpF halvedF pLimbs) (fun _ => Tree.sat_leaf (by simp only [greatF]))

abbrev oF : Out Fp := rF.out
def powSt (e : List UInt64) (x o : Fp) (z : Int) : St := mkSt 38 [(1, inV 0 e), (4, ptrV 1), (5, ptrV 2), (6, ptrV 3), (7, vI z)] [inHE eU64 e, own 24 (zeros 6), own 24 (Row.cs x), own 24 (Row.cs o)]

def tPow (wF : Fp → Fp) (hF : Fp → Fp → Fp) (lF : Fp → Fp) : Table := [(44, Kf wF), (46, Kff hF), (45, Kf lF)]

theorem pow_front (T : Table) (a : Fp) (e : List UInt64) : stageT (En T) 100 ((flat (codeOf Try.f15)).take 1) (startSt Try.f15 [vF a, iL.av 0 e] [inHE eU64 e]) [1, 2, 4] [0, 1, 2] =
    .leaf (mkSt 38 [(1, inV 0 e), (2, ptrV 1), (4, ptrV 2)] [inHE eU64 e, own 24 (Row.cs a), own 24 (zeros 6)]) := by kernel_rfl
theorem pow_start (hF : Fp → Fp → Fp) (wF lF : Fp → Fp) (a : Fp) (e : List UInt64) : stageT (En (tPow wF hF lF)) 100 ((flat (scopeOf Try.f15)).take 3) (mkSt 38 [(1, inV 0 e), (2, ptrV 1), (4, ptrV 2)] [inHE eU64 e, own 24 (Row.cs a), own 24 (zeros 6)]) [1, 4, 5, 6, 7] [0, 2, 3, 4] =
    .vc (0 + e.length * 1 ≤ (eU64.body e).cells.length ∧ 0 < 1) (.leaf (powSt e (wF a) (wF oneFp) (IntKind.i64.wrap (64 * e.length)))) := by kernel_rfl

def quoZ (z : Int) : Int := IntKind.i64.wrap ((IntKind.i64.wrap (z - 1)).tdiv 64)
def remZ (z : Int) : UInt64 := UInt64.ofNat (((IntKind.i64.wrap (z - 1)).tmod 64) % 18446744073709551616).toNat
def bitZ (e : List UInt64) (z : Int) : Bool := shrU (e.getD (0 + (quoZ z).toNat * 1) 0) ((remZ z).toNat : Int) &&& 1 == 1

theorem pow_iter (hF : Fp → Fp → Fp) (wF lF : Fp → Fp) (x o : Fp) (e : List UInt64) (z : Int) : iterT (En (tPow wF hF lF)) oF 100 Try.f15 ((flat (scopeOf Try.f15)).drop 3) (powSt e x o z) [1, 4, 5, 6, 7] [0, 1, 2, 3] =
    .br (decide (IntKind.i64.wrap (z - 1) < 0)) (.leaf (.inr (some (lF o, .t))))
      (.vc ((0 ≤ quoZ z ∧ quoZ z < e.length) ∧ 0 + e.length * 1 ≤ (eU64.body e).cells.length ∧ 0 < 1) (.vc (0 + (quoZ z).toNat * 1 < e.length)
        (.br (bitZ e z) (.leaf (.inl (.goto 0, powSt e x (hF (hF o o) x) (IntKind.i64.wrap (z - 1))))) (.leaf (.inl (.goto 0, powSt e x (hF o o) (IntKind.i64.wrap (z - 1)))))))) := by kernel_rfl

/-- A bit of a number of limbs. -/
def bitAt (e : List UInt64) (i : Nat) : Bool := (e.getD (i / 64) 0).toNat.testBit (i % 64)

theorem shr_bit (x : UInt64) (k : Nat) (hk : k < 64) : (shrU x (k : Int) &&& 1 == 1) = x.toNat.testBit k := by
  have h1 : (shrU x (k : Int)).toNat = x.toNat / 2 ^ k := by
    have := x.toNat_lt
    unfold shrU
    rw [Int.toNat_natCast, Nat.min_eq_left (by omega), UInt64.toNat_ofNat']
    exact Nat.mod_eq_of_lt (Nat.lt_of_le_of_lt (Nat.div_le_self _ _) this)
  have h2 : (shrU x (k : Int) &&& 1).toNat = x.toNat / 2 ^ k % 2 := by
    rw [UInt64.toNat_and, h1]
    exact Nat.and_one_is_mod _
  rw [Nat.testBit_eq_decide_div_mod_eq]
  rw [← h2]
  have h3 : (shrU x (k : Int) &&& 1 == 1) = decide ((shrU x (k : Int) &&& 1) = 1) := rfl
  rw [h3]
  have : ((shrU x (k : Int) &&& 1) = 1) ↔ (shrU x (k : Int) &&& 1).toNat = 1 := ⟨fun h => by rw [h]; rfl, fun h => UInt64.toNat.inj (by rw [h]; rfl)⟩
  exact decide_eq_decide.2 this

theorem quoZ_nat (n : Nat) (h : n < 576460752303423488) : quoZ ((n : Int) + 1) = ((n / 64 : Nat) : Int) := by
  unfold quoZ
  rw [show (n : Int) + 1 - 1 = n by omega, IntWalk.i64_in (n : Int) (by omega), show ((n : Int)).tdiv 64 = ((n / 64 : Nat) : Int) by rw [Int.tdiv_eq_ediv_of_nonneg (by omega)]; omega, IntWalk.i64_in _ (by omega)]

theorem bitZ_nat (e : List UInt64) (n : Nat) (h : n < 576460752303423488) : bitZ e ((n : Int) + 1) = bitAt e n := by
  unfold bitZ bitAt
  rw [quoZ_nat n h]
  have h1 : (remZ ((n : Int) + 1)).toNat = n % 64 := by
    unfold remZ
    rw [show (n : Int) + 1 - 1 = n by omega, IntWalk.i64_in (n : Int) (by omega), show ((n : Int)).tmod 64 = ((n % 64 : Nat) : Int) by rw [Int.tmod_eq_emod_of_nonneg (by omega)]; omega]
    rw [show (((n % 64 : Nat) : Int) % 18446744073709551616).toNat = n % 64 by omega, UInt64.toNat_ofNat']
    omega
  rw [h1, shr_bit _ _ (by omega)]
  simp only [Nat.zero_add, Nat.mul_one, Int.toNat_natCast]

def powAt (x : Fp) (e : List UInt64) : Nat → Fp → Fp
  | 0, o => lowF o
  | n + 1, o => powAt x e n (match bitAt e n with | true => halfF (halfF o o) x | false => halfF o o)
def powF (a : Fp) (e : List UInt64) : Fp := powAt (wholeF a) e (64 * e.length) (wholeF oneFp)

abbrev PowOk (a : Fp) (e : List UInt64) : Type := { q : Int × Fp // 0 ≤ q.1 ∧ q.1 ≤ 64 * e.length ∧ powAt (wholeF a) e q.1.toNat q.2 = powF a e }
def powI (a : Fp) (e : List UInt64) (q : PowOk a e) : St := powSt e (wholeF a) q.1.2 q.1.1

theorem pow_ok : CallOk Try.prog 15 (K2 (kRow Fp).arg aL rF.res powF) :=
  G2 (E := En (tPow wholeF halfF lowF)) Try.func15 (c := codeOf Try.f15) (by kernel_rfl) (bodied Try.func15 (by kernel_rfl) (by kernel_rfl)) (kRow Fp).inp iL oF powF fun a e _ he => by
    have hE : EnvOk (En (tPow wholeF halfF lowF)) := En_ok (.cons whole_ok (.cons half_ok (.cons low_ok .nil)))
    have he : e.length < 1125899906842624 := he
    have hw : IntKind.i64.wrap (64 * (e.length : Int)) = 64 * (e.length : Int) := IntWalk.i64_in _ (by omega)
    refine DoesL.stageE hE 100 1 [1, 2, 4] [0, 1, 2] (pow_front _ a e) ?_
    refine DoesL.scopeFn (body := scopeOf Try.f15) (rest := restOf Try.f15) (tail := []) (l := 0) hE (by kernel_rfl) (by kernel_rfl) 100 3 (by kernel_rfl) [1, 4, 5, 6, 7] [0, 2, 3, 4] (powI a e) (fun q => q.1.1.toNat)
      ⟨(64 * (e.length : Int), wholeF oneFp), by simp only []; omega, by simp only []; omega, by rw [show ((64 * (e.length : Int), wholeF oneFp) : Int × Fp).1.toNat = 64 * e.length by simp only []; omega]; simp only [powF]⟩
      (pow_start halfF wholeF lowF a e) ⟨⟨by rw [cells_len]; omega, by decide⟩, fun _ => by rw [hw]; exact Tree.sat_leaf (by simp only [powI])⟩ fun q => ?_
    obtain ⟨⟨z, o⟩, h0, h1, h2⟩ := q
    simp only [] at h0 h1 h2
    have hz : IntKind.i64.wrap (z - 1) = z - 1 := IntWalk.i64_in _ (by omega)
    refine DoesL.iter hE 100 [1, 4, 5, 6, 7] [0, 1, 2, 3] (pow_iter halfF wholeF lowF (wholeF a) o e z) ?_
    rw [hz]
    refine ⟨fun h => ?_, fun h => ?_⟩
    · simp only [decide_eq_true_eq] at h
      obtain rfl : z = 0 := by omega
      exact ⟨.t, by rw [← h2]; rfl, trivial⟩
    · simp only [decide_eq_false_iff_not] at h
      obtain ⟨n, rfl⟩ : ∃ n : Nat, z = (n : Int) + 1 := ⟨(z - 1).toNat, by omega⟩
      rw [quoZ_nat n (by omega), bitZ_nat e n (by omega)]
      rw [show ((n : Int) + 1).toNat = n + 1 by omega] at h2
      simp only [powAt] at h2
      refine ⟨⟨⟨by omega, by omega⟩, by rw [cells_len]; omega, by decide⟩, fun _ => ⟨by omega, fun _ => ⟨fun h3 => ?_, fun h3 => ?_⟩⟩⟩
      all_goals
        have hn : ((n : Int) + 1 - 1).toNat = n := by omega
        rw [h3] at h2
        simp only [] at h2
      · refine ⟨rfl, ⟨((n : Int) + 1 - 1, halfF (halfF o o) (wholeF a)), ?_, ?_, ?_⟩, ?_, by simp only [powI]⟩
        · show 0 ≤ (n : Int) + 1 - 1; omega
        · show (n : Int) + 1 - 1 ≤ 64 * e.length; omega
        · simpa only [hn] using h2
        · show ((n : Int) + 1 - 1).toNat < ((n : Int) + 1).toNat; omega
      · refine ⟨rfl, ⟨((n : Int) + 1 - 1, halfF o o), ?_, ?_, ?_⟩, ?_, by simp only [powI]⟩
        · show 0 ≤ (n : Int) + 1 - 1; omega
        · show (n : Int) + 1 - 1 ≤ 64 * e.length; omega
        · simpa only [hn] using h2
        · show ((n : Int) + 1 - 1).toNat < ((n : Int) + 1).toNat; omega

end Go.Proofs.Ytfkmooldindfjaa
