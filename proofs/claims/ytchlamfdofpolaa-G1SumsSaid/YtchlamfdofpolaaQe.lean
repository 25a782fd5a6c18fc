/- Package g1: multiples. -/
import Derived.Test.YtchlamfdofpolaaQb
import Derived.Test.YtchlamfdofpolaaRc
set_option linter.unusedSimpArgs false
set_option linter.unusedVariables false
namespace Go.Proofs.Ytchlamfdofpolaa
open Go.RowKit

abbrev ks1 : Kd Sp1 := kRow Sp1
def tmSt1 (e : List UInt64) (x : Sp1) (cs : List Cell) (z : Int) : St := mkSt 31 [(1, inV 0 e), (2, ptrV 1), (4, ptrV 2), (5, ptrV 3), (6, vI z)] [inHE eU64 e, own 72 (Row.cs x), own 72 (zeros 18), own 72 cs]
def tTm1 (tw : Sp1 → Sp1) (pl : Sp1 → Sp1 → Sp1) : Table := [(80, K1 ks1.arg ks1.rs.res tw), (56, K2 ks1.arg ks1.arg ks1.rs.res pl)]
theorem tm1_front (T : Table) (x : Sp1) (e : List UInt64) : stageT (En T) 100 ((flat (codeOf Try.f63)).take 1) (startSt Try.f63 [.one (ks1.av x), iL.av 0 e] [inHE eU64 e]) [1, 2, 4] [0, 1, 2] =
    .leaf (mkSt 31 [(1, inV 0 e), (2, ptrV 1), (4, ptrV 2)] [inHE eU64 e, own 72 (Row.cs x), own 72 (zeros 18)]) := by kernel_rfl
theorem tm1_start (tw : Sp1 → Sp1) (pl : Sp1 → Sp1 → Sp1) (x : Sp1) (e : List UInt64) : stageT (En (tTm1 tw pl)) 100 ((flat (scopeOf Try.f63)).take 3) (mkSt 31 [(1, inV 0 e), (2, ptrV 1), (4, ptrV 2)] [inHE eU64 e, own 72 (Row.cs x), own 72 (zeros 18)]) [1, 2, 4, 5, 6] [0, 1, 2, 3] =
    .vc (0 + e.length * 1 ≤ (eU64.body e).cells.length ∧ 0 < 1) (.leaf (tmSt1 e x (zeros 18) (IntKind.i64.wrap (64 * e.length)))) := by kernel_rfl
theorem tm1_iter (tw : Sp1 → Sp1) (pl : Sp1 → Sp1 → Sp1) (x o : Sp1) (e : List UInt64) (z : Int) : iterT (En (tTm1 tw pl)) ks1.rs.out 100 Try.f63 ((flat (scopeOf Try.f63)).drop 3) (tmSt1 e x (Row.cs o) z) [1, 2, 4, 5, 6] [0, 1, 2, 3] =
    .br (decide (IntKind.i64.wrap (z - 1) < 0)) (.leaf (.inr (some (o, .t))))
      (.vc ((0 ≤ quoZ z ∧ quoZ z < e.length) ∧ 0 + e.length * 1 ≤ (eU64.body e).cells.length ∧ 0 < 1) (.vc (0 + (quoZ z).toNat * 1 < e.length)
        (.br (bitZ e z) (.leaf (.inl (.goto 0, tmSt1 e x (Row.cs (pl (tw o) x)) (IntKind.i64.wrap (z - 1))))) (.leaf (.inl (.goto 0, tmSt1 e x (Row.cs (tw o)) (IntKind.i64.wrap (z - 1)))))))) := by kernel_rfl
theorem tm1_first (tw : Sp1 → Sp1) (pl : Sp1 → Sp1 → Sp1) (x : Sp1) (e : List UInt64) (z : Int) : iterT (En (tTm1 tw pl)) ks1.rs.out 100 Try.f63 ((flat (scopeOf Try.f63)).drop 3) (tmSt1 e x (zeros 18) z) [1, 2, 4, 5, 6] [0, 1, 2, 3] =
    .br (decide (IntKind.i64.wrap (z - 1) < 0)) (.leaf (.inr (some (zeroSp, .t))))
      (.vc ((0 ≤ quoZ z ∧ quoZ z < e.length) ∧ 0 + e.length * 1 ≤ (eU64.body e).cells.length ∧ 0 < 1) (.vc (0 + (quoZ z).toNat * 1 < e.length)
        (.br (bitZ e z) (.leaf (.inl (.goto 0, tmSt1 e x (Row.cs (pl (tw zeroSp) x)) (IntKind.i64.wrap (z - 1))))) (.leaf (.inl (.goto 0, tmSt1 e x (Row.cs (tw zeroSp)) (IntKind.i64.wrap (z - 1)))))))) := by kernel_rfl

/-- The sum's cells: ahead of the first round they are new. -/
def outC1 (b : Bool) (o : Sp1) : List Cell := match b with
  | true => zeros 18
  | false => Row.cs o
def timesG1 (x : Sp1) (e : List UInt64) : Sp1 := dblG twiceG1 (fun o => plusG1 o x) e (64 * e.length) zeroSp
/-- Where the loop is: ahead of the first round or not, how many bits are left, the sum. -/
abbrev Tm1Ok (x : Sp1) (e : List UInt64) : Type := { q : Bool × Int × Sp1 // 0 ≤ q.2.1 ∧ q.2.1 ≤ 64 * e.length ∧ (q.1 = true → q.2.2 = zeroSp) ∧ dblG twiceG1 (fun o => plusG1 o x) e q.2.1.toNat q.2.2 = timesG1 x e }
def tm1I (x : Sp1) (e : List UInt64) (q : Tm1Ok x e) : St := tmSt1 e x (outC1 q.1.1 q.1.2.2) q.1.2.1
theorem tm1_iterB (x : Sp1) (e : List UInt64) (b : Bool) (o : Sp1) (hb : b = true → o = zeroSp) (z : Int) : iterT (En (tTm1 twiceG1 plusG1)) ks1.rs.out 100 Try.f63 ((flat (scopeOf Try.f63)).drop 3) (tmSt1 e x (outC1 b o) z) [1, 2, 4, 5, 6] [0, 1, 2, 3] =
    .br (decide (IntKind.i64.wrap (z - 1) < 0)) (.leaf (.inr (some (o, .t))))
      (.vc ((0 ≤ quoZ z ∧ quoZ z < e.length) ∧ 0 + e.length * 1 ≤ (eU64.body e).cells.length ∧ 0 < 1) (.vc (0 + (quoZ z).toNat * 1 < e.length)
        (.br (bitZ e z) (.leaf (.inl (.goto 0, tmSt1 e x (Row.cs (plusG1 (twiceG1 o) x)) (IntKind.i64.wrap (z - 1))))) (.leaf (.inl (.goto 0, tmSt1 e x (Row.cs (twiceG1 o)) (IntKind.i64.wrap (z - 1)))))))) := by
  cases b with
  | true =>
    rw [hb rfl]
    exact tm1_first twiceG1 plusG1 x e z
  | false => exact tm1_iter twiceG1 plusG1 x o e z

theorem timesG1_ok : CallOk Try.prog 63 (K2 ks1.arg aL ks1.rs.res timesG1) :=
  Go.Proofs.Ytchlamfdofpolaa.G2 (E := En (tTm1 twiceG1 plusG1)) Try.func63 (c := codeOf Try.f63) (by kernel_rfl) (bodied Try.func63 (by kernel_rfl) (by kernel_rfl)) ks1.inp iL ks1.rs.out timesG1 fun x e _ he => by
    have hE : EnvOk (En (tTm1 twiceG1 plusG1)) := En_ok (.cons twiceG1_ok (.cons plusG1_ok .nil))
    have he : e.length < 1125899906842624 := he
    have hw : IntKind.i64.wrap (64 * (e.length : Int)) = 64 * (e.length : Int) := IntWalk.i64_in _ (by omega)
    refine DoesL.stageE hE 100 1 [1, 2, 4] [0, 1, 2] (tm1_front _ x e) ?_
    refine DoesL.scopeFn (body := scopeOf Try.f63) (rest := restOf Try.f63) (tail := []) (l := 0) hE (by kernel_rfl) (by kernel_rfl) 100 3 (by kernel_rfl) [1, 2, 4, 5, 6] [0, 1, 2, 3] (tm1I x e) (fun q => q.1.2.1.toNat)
      ⟨(true, 64 * (e.length : Int), zeroSp), by simp only []; omega, by simp only []; omega, fun _ => rfl, by rw [show ((true, 64 * (e.length : Int), zeroSp) : Bool × Int × Sp1).2.1.toNat = 64 * e.length by simp only []; omega]; simp only [timesG1]⟩
      (tm1_start twiceG1 plusG1 x e) ⟨⟨by rw [cells_len]; omega, by decide⟩, fun _ => by rw [hw]; exact Tree.sat_leaf (by simp only [tm1I, outC1])⟩ fun q => ?_
    obtain ⟨⟨b, z, o⟩, h0, h1, hb, h2⟩ := q
    simp only [] at h0 h1 h2 hb
    have hz : IntKind.i64.wrap (z - 1) = z - 1 := IntWalk.i64_in _ (by omega)
    refine DoesL.iter hE 100 [1, 2, 4, 5, 6] [0, 1, 2, 3] (tm1_iterB x e b o hb z) ?_
    rw [hz]
    refine ⟨fun h => ?_, fun h => ?_⟩
    · simp only [decide_eq_true_eq] at h
      obtain rfl : z = 0 := by omega
      exact ⟨.t, by rw [← h2]; rfl, trivial⟩
    · simp only [decide_eq_false_iff_not] at h
      obtain ⟨n, rfl⟩ : ∃ n : Nat, z = (n : Int) + 1 := ⟨(z - 1).toNat, by omega⟩
      rw [quoZ_nat n (by omega), bitZ_nat e n (by omega)]
      rw [show ((n : Int) + 1).toNat = n + 1 by omega] at h2
      simp only [dblG] at h2
      refine ⟨⟨⟨by omega, by omega⟩, by rw [cells_len]; omega, by decide⟩, fun _ => ⟨by omega, fun _ => ⟨fun h3 => ?_, fun h3 => ?_⟩⟩⟩
      all_goals
        have hn : ((n : Int) + 1 - 1).toNat = n := by omega
        rw [h3] at h2
        simp only [] at h2
      · refine ⟨rfl, ⟨(false, (n : Int) + 1 - 1, plusG1 (twiceG1 o) x), ?_, ?_, ?_, ?_⟩, ?_, by simp only [tm1I, outC1]⟩
        · show 0 ≤ (n : Int) + 1 - 1; omega
        · show (n : Int) + 1 - 1 ≤ 64 * e.length; omega
        · intro h; cases h
        · simpa only [hn] using h2
        · show ((n : Int) + 1 - 1).toNat < ((n : Int) + 1).toNat; omega
      · refine ⟨rfl, ⟨(false, (n : Int) + 1 - 1, twiceG1 o), ?_, ?_, ?_, ?_⟩, ?_, by simp only [tm1I, outC1]⟩
        · show 0 ≤ (n : Int) + 1 - 1; omega
        · show (n : Int) + 1 - 1 ≤ 64 * e.length; omega
        · intro h; cases h
        · simpa only [hn] using h2
        · show ((n : Int) + 1 - 1).toNat < ((n : Int) + 1).toNat; omega

def mulG1_G (f0 : Sp1 → Pg1) (f1 : Sp1 → List UInt64 → Sp1) (f2 : Pg1 → Sp1) (a : Pg1) (k : Fr) : Pg1 := (f0 (f1 (f2 a) [k.l0, k.l1, k.l2, k.l3]))
def mulG1_T (f0 : Sp1 → Pg1) (f1 : Sp1 → List UInt64 → Sp1) (f2 : Pg1 → Sp1) (a : Pg1) (k : Fr) : Tree (Option (Pg1)) :=
  (.leaf (some (f0 (f1 (f2 a) [k.l0, k.l1, k.l2, k.l3]))))
theorem mulG1_run (f0 : Sp1 → Pg1) (f1 : Sp1 → List UInt64 → Sp1) (f2 : Pg1 → Sp1) (a : Pg1) (k : Fr) : plainRun (En [(55, K1 (kRow Sp1).arg (kRow Pg1).rs.res f0), (63, K2 ks1.arg aL ks1.rs.res f1), (57, K1 (kRow Pg1).arg (kRow Sp1).rs.res f2)]) (kRow Pg1).rs 300 Try.f22 [.one ((kRow Pg1).av a), .one ((kRow Fr).av k)] = mulG1_T f0 f1 f2 a k := by kernel_rfl
theorem mulG1_sat (f0 : Sp1 → Pg1) (f1 : Sp1 → List UInt64 → Sp1) (f2 : Pg1 → Sp1) (a : Pg1) (k : Fr) : (mulG1_T f0 f1 f2 a k).sat fun q => q = some (mulG1_G f0 f1 f2 a k) := (show some _ = some _ from rfl)
def mulG1 (a : Pg1) (k : Fr) : Pg1 := mulG1_G laysG1 timesG1 liftG1 a k
theorem mulG1_ok : CallOk Try.prog 22 (K2 (kRow Pg1).arg (kRow Fr).arg (kRow Pg1).rs.res mulG1) :=
  P2 (En_ok (.cons laysG1_ok (.cons timesG1_ok (.cons liftG1_ok .nil)))) Try.func22 (bodied Try.func22 (by kernel_rfl) (by kernel_rfl)) 300 (kRow Pg1) (kRow Fr) (kRow Pg1).rs mulG1 (mulG1_run laysG1 timesG1 liftG1) (mulG1_sat laysG1 timesG1 liftG1)
def inG1_G (f0 : Pg1 → Bool) (f1 : Fp → Bool) (f2 : Sp1 → List UInt64 → Sp1) (f3 : Pg1 → Sp1) (f4 : Fr) (a : Pg1) : Bool := (match (f0 a) with | true => ((f1 (f2 (f3 a) [f4.l0, f4.l1, f4.l2, f4.l3]).z)) | false => ((false)))
def inG1_T (f0 : Pg1 → Bool) (f1 : Fp → Bool) (f2 : Sp1 → List UInt64 → Sp1) (f3 : Pg1 → Sp1) (f4 : Fr) (a : Pg1) : Tree (Option (Bool)) :=
  (.br (f0 a)
    (.leaf (some ((f1 (f2 (f3 a) [f4.l0, f4.l1, f4.l2, f4.l3]).z))))
    (.leaf (some ((false)))))
theorem inG1_run (f0 : Pg1 → Bool) (f1 : Fp → Bool) (f2 : Sp1 → List UInt64 → Sp1) (f3 : Pg1 → Sp1) (f4 : Fr) (a : Pg1) : plainRun (Ens [(25, K1 (kRow Pg1).arg kBool.rs.res f0), (73, K1 (kRow Fp).arg kBool.rs.res f1), (63, K2 ks1.arg aL ks1.rs.res f2), (57, K1 (kRow Pg1).arg (kRow Sp1).rs.res f3), (74, K0 (rS4 24) f4)] [74]) kBool.rs 300 Try.f30 [.one ((kRow Pg1).av a)] = inG1_T f0 f1 f2 f3 f4 a := by kernel_rfl
theorem inG1_sat (f0 : Pg1 → Bool) (f1 : Fp → Bool) (f2 : Sp1 → List UInt64 → Sp1) (f3 : Pg1 → Sp1) (f4 : Fr) (a : Pg1) : (inG1_T f0 f1 f2 f3 f4 a).sat fun q => q = some (inG1_G f0 f1 f2 f3 f4 a) := ⟨fun h0 => (show some _ = some _ from congrArg some (by unfold inG1_G; rw [h0])), fun h0 => (show some _ = some _ from congrArg some (by unfold inG1_G; rw [h0]))⟩
def inG1 (a : Pg1) : Bool := inG1_G onG1 zeroG1 timesG1 liftG1 rLimbs a
theorem inG1_ok : CallOk Try.prog 30 (K1 (kRow Pg1).arg kBool.rs.res inG1) :=
  P1 (Ens_ok (.cons onG1_ok (.cons zeroG1_ok (.cons timesG1_ok (.cons liftG1_ok (.cons R4_ok .nil)))))) Try.func30 (bodied Try.func30 (by kernel_rfl) (by kernel_rfl)) 300 (kRow Pg1) kBool.rs inG1 (inG1_run onG1 zeroG1 timesG1 liftG1 rLimbs) (inG1_sat onG1 zeroG1 timesG1 liftG1 rLimbs)

end Go.Proofs.Ytchlamfdofpolaa
