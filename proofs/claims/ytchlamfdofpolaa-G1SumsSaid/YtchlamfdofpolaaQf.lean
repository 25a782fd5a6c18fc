/- Package g2: multiples. -/
import Derived.Test.YtchlamfdofpolaaQc
import Derived.Test.YtchlamfdofpolaaRc
set_option linter.unusedSimpArgs false
set_option linter.unusedVariables false
namespace Go.Proofs.Ytchlamfdofpolaa
open Go.RowKit

abbrev ks2 : Kd Fp6 := kRow Fp6
def tmSt2 (e : List UInt64) (x : Fp6) (cs : List Cell) (z : Int) : St := mkSt 31 [(1, inV 0 e), (2, ptrV 1), (4, ptrV 2), (5, ptrV 3), (6, vI z)] [inHE eU64 e, own 97 (Row.cs x), own 97 (zeros 36), own 97 cs]
def tTm2 (tw : Fp6 → Fp6) (pl : Fp6 → Fp6 → Fp6) : Table := [(99, K1 ks2.arg ks2.rs.res tw), (82, K2 ks2.arg ks2.arg ks2.rs.res pl)]
theorem tm2_front (T : Table) (x : Fp6) (e : List UInt64) : stageT (En T) 100 ((flat (codeOf Try.f88)).take 1) (startSt Try.f88 [.one (ks2.av x), iL.av 0 e] [inHE eU64 e]) [1, 2, 4] [0, 1, 2] =
    .leaf (mkSt 31 [(1, inV 0 e), (2, ptrV 1), (4, ptrV 2)] [inHE eU64 e, own 97 (Row.cs x), own 97 (zeros 36)]) := by kernel_rfl
theorem tm2_start (tw : Fp6 → Fp6) (pl : Fp6 → Fp6 → Fp6) (x : Fp6) (e : List UInt64) : stageT (En (tTm2 tw pl)) 100 ((flat (scopeOf Try.f88)).take 3) (mkSt 31 [(1, inV 0 e), (2, ptrV 1), (4, ptrV 2)] [inHE eU64 e, own 97 (Row.cs x), own 97 (zeros 36)]) [1, 2, 4, 5, 6] [0, 1, 2, 3] =
    .vc (0 + e.length * 1 ≤ (eU64.body e).cells.length ∧ 0 < 1) (.leaf (tmSt2 e x (zeros 36) (IntKind.i64.wrap (64 * e.length)))) := by kernel_rfl
theorem tm2_iter (tw : Fp6 → Fp6) (pl : Fp6 → Fp6 → Fp6) (x o : Fp6) (e : List UInt64) (z : Int) : iterT (En (tTm2 tw pl)) ks2.rs.out 100 Try.f88 ((flat (scopeOf Try.f88)).drop 3) (tmSt2 e x (Row.cs o) z) [1, 2, 4, 5, 6] [0, 1, 2, 3] =
    .br (decide (IntKind.i64.wrap (z - 1) < 0)) (.leaf (.inr (some (o, .t))))
      (.vc ((0 ≤ quoZ z ∧ quoZ z < e.length) ∧ 0 + e.length * 1 ≤ (eU64.body e).cells.length ∧ 0 < 1) (.vc (0 + (quoZ z).toNat * 1 < e.length)
        (.br (bitZ e z) (.leaf (.inl (.goto 0, tmSt2 e x (Row.cs (pl (tw o) x)) (IntKind.i64.wrap (z - 1))))) (.leaf (.inl (.goto 0, tmSt2 e x (Row.cs (tw o)) (IntKind.i64.wrap (z - 1)))))))) := by kernel_rfl
theorem tm2_first (tw : Fp6 → Fp6) (pl : Fp6 → Fp6 → Fp6) (x : Fp6) (e : List UInt64) (z : Int) : iterT (En (tTm2 tw pl)) ks2.rs.out 100 Try.f88 ((flat (scopeOf Try.f88)).drop 3) (tmSt2 e x (zeros 36) z) [1, 2, 4, 5, 6] [0, 1, 2, 3] =
    .br (decide (IntKind.i64.wrap (z - 1) < 0)) (.leaf (.inr (some (zeroFp6, .t))))
      (.vc ((0 ≤ quoZ z ∧ quoZ z < e.length) ∧ 0 + e.length * 1 ≤ (eU64.body e).cells.length ∧ 0 < 1) (.vc (0 + (quoZ z).toNat * 1 < e.length)
        (.br (bitZ e z) (.leaf (.inl (.goto 0, tmSt2 e x (Row.cs (pl (tw zeroFp6) x)) (IntKind.i64.wrap (z - 1))))) (.leaf (.inl (.goto 0, tmSt2 e x (Row.cs (tw zeroFp6)) (IntKind.i64.wrap (z - 1)))))))) := by kernel_rfl

/-- The sum's cells: ahead of the first round they are new. -/
def outC2 (b : Bool) (o : Fp6) : List Cell := match b with
  | true => zeros 36
  | false => Row.cs o
def timesG2 (x : Fp6) (e : List UInt64) : Fp6 := dblG twiceG2 (fun o => plusG2 o x) e (64 * e.length) zeroFp6
/-- Where the loop is: ahead of the first round or not, how many bits are left, the sum. -/
abbrev Tm2Ok (x : Fp6) (e : List UInt64) : Type := { q : Bool × Int × Fp6 // 0 ≤ q.2.1 ∧ q.2.1 ≤ 64 * e.length ∧ (q.1 = true → q.2.2 = zeroFp6) ∧ dblG twiceG2 (fun o => plusG2 o x) e q.2.1.toNat q.2.2 = timesG2 x e }
def tm2I (x : Fp6) (e : List UInt64) (q : Tm2Ok x e) : St := tmSt2 e x (outC2 q.1.1 q.1.2.2) q.1.2.1
theorem tm2_iterB (x : Fp6) (e : List UInt64) (b : Bool) (o : Fp6) (hb : b = true → o = zeroFp6) (z : Int) : iterT (En (tTm2 twiceG2 plusG2)) ks2.rs.out 100 Try.f88 ((flat (scopeOf Try.f88)).drop 3) (tmSt2 e x (outC2 b o) z) [1, 2, 4, 5, 6] [0, 1, 2, 3] =
    .br (decide (IntKind.i64.wrap (z - 1) < 0)) (.leaf (.inr (some (o, .t))))
      (.vc ((0 ≤ quoZ z ∧ quoZ z < e.length) ∧ 0 + e.length * 1 ≤ (eU64.body e).cells.length ∧ 0 < 1) (.vc (0 + (quoZ z).toNat * 1 < e.length)
        (.br (bitZ e z) (.leaf (.inl (.goto 0, tmSt2 e x (Row.cs (plusG2 (twiceG2 o) x)) (IntKind.i64.wrap (z - 1))))) (.leaf (.inl (.goto 0, tmSt2 e x (Row.cs (twiceG2 o)) (IntKind.i64.wrap (z - 1)))))))) := by
  cases b with
  | true =>
    rw [hb rfl]
    exact tm2_first twiceG2 plusG2 x e z
  | false => exact tm2_iter twiceG2 plusG2 x o e z

theorem timesG2_ok : CallOk Try.prog 88 (K2 ks2.arg aL ks2.rs.res timesG2) :=
  Go.Proofs.Ytchlamfdofpolaa.G2 (E := En (tTm2 twiceG2 plusG2)) Try.func88 (c := codeOf Try.f88) (by kernel_rfl) (bodied Try.func88 (by kernel_rfl) (by kernel_rfl)) ks2.inp iL ks2.rs.out timesG2 fun x e _ he => by
    have hE : EnvOk (En (tTm2 twiceG2 plusG2)) := En_ok (.cons twiceG2_ok (.cons plusG2_ok .nil))
    have he : e.length < 1125899906842624 := he
    have hw : IntKind.i64.wrap (64 * (e.length : Int)) = 64 * (e.length : Int) := IntWalk.i64_in _ (by omega)
    refine DoesL.stageE hE 100 1 [1, 2, 4] [0, 1, 2] (tm2_front _ x e) ?_
    refine DoesL.scopeFn (body := scopeOf Try.f88) (rest := restOf Try.f88) (tail := []) (l := 0) hE (by kernel_rfl) (by kernel_rfl) 100 3 (by kernel_rfl) [1, 2, 4, 5, 6] [0, 1, 2, 3] (tm2I x e) (fun q => q.1.2.1.toNat)
      ⟨(true, 64 * (e.length : Int), zeroFp6), by simp only []; omega, by simp only []; omega, fun _ => rfl, by rw [show ((true, 64 * (e.length : Int), zeroFp6) : Bool × Int × Fp6).2.1.toNat = 64 * e.length by simp only []; omega]; simp only [timesG2]⟩
      (tm2_start twiceG2 plusG2 x e) ⟨⟨by rw [cells_len]; omega, by decide⟩, fun _ => by rw [hw]; exact Tree.sat_leaf (by simp only [tm2I, outC2])⟩ fun q => ?_
    obtain ⟨⟨b, z, o⟩, h0, h1, hb, h2⟩ := q
    simp only [] at h0 h1 h2 hb
    have hz : IntKind.i64.wrap (z - 1) = z - 1 := IntWalk.i64_in _ (by omega)
    refine DoesL.iter hE 100 [1, 2, 4, 5, 6] [0, 1, 2, 3] (tm2_iterB x e b o hb z) ?_
    rw [hz]
    refine ⟨fun h => ?_, fun h => ?_⟩
    · simp only [decide_eq_true_eq] at h
      obtain rfl : z = 0 := by omega
      exact ⟨.t, by rw [← h2]; rfl, trivial⟩
    · simp only [decide_eq_false_iff_not] at h
      obtain ⟨n, rfl⟩ : ∃ n : Nat, z = (n : Int) + 1 := ⟨(z - 1).toNat, by omega⟩
      rw [quoZ_nat n (by omega), bitZ_nat e n (by omega)]
      rw [show ((n : Int) + 1).toNat = n + 1 by omega] at h2
      simp only [dblG] at h2
      refine ⟨⟨⟨by omega, by omega⟩, by rw [cells_len]; omega, by decide⟩, fun _ => ⟨by omega, fun _ => ⟨fun h3 => ?_, fun h3 => ?_⟩⟩⟩
      all_goals
        have hn : ((n : Int) + 1 - 1).toNat = n := by omega
        rw [h3] at h2
        simp only [] at h2
      · refine ⟨rfl, ⟨(false, (n : Int) + 1 - 1, plusG2 (twiceG2 o) x), ?_, ?_, ?_, ?_⟩, ?_, by simp only [tm2I, outC2]⟩
        · show 0 ≤ (n : Int) + 1 - 1; omega
        · show (n : Int) + 1 - 1 ≤ 64 * e.length; omega
        · intro h; cases h
        · simpa only [hn] using h2
        · show ((n : Int) + 1 - 1).toNat < ((n : Int) + 1).toNat; omega
      · refine ⟨rfl, ⟨(false, (n : Int) + 1 - 1, twiceG2 o), ?_, ?_, ?_, ?_⟩, ?_, by simp only [tm2I, outC2]⟩
        · show 0 ≤ (n : Int) + 1 - 1; omega
        · show (n : Int) + 1 - 1 ≤ 64 * e.length; omega
        · intro h; cases h
        · simpa only [hn] using h2
        · show ((n : Int) + 1 - 1).toNat < ((n : Int) + 1).toNat; omega

def mulG2_G (f0 : Fp6 → Pg2) (f1 : Fp6 → List UInt64 → Fp6) (f2 : Pg2 → Fp6) (a : Pg2) (k : Fr) : Pg2 := (f0 (f1 (f2 a) [k.l0, k.l1, k.l2, k.l3]))
def mulG2_T (f0 : Fp6 → Pg2) (f1 : Fp6 → List UInt64 → Fp6) (f2 : Pg2 → Fp6) (a : Pg2) (k : Fr) : Tree (Option (Pg2)) :=
  (.leaf (some (f0 (f1 (f2 a) [k.l0, k.l1, k.l2, k.l3]))))
theorem mulG2_run (f0 : Fp6 → Pg2) (f1 : Fp6 → List UInt64 → Fp6) (f2 : Pg2 → Fp6) (a : Pg2) (k : Fr) : plainRun (En [(81, K1 (kRow Fp6).arg (kRow Pg2).rs.res f0), (88, K2 ks2.arg aL ks2.rs.res f1), (83, K1 (kRow Pg2).arg (kRow Fp6).rs.res f2)]) (kRow Pg2).rs 300 Try.f42 [.one ((kRow Pg2).av a), .one ((kRow Fr).av k)] = mulG2_T f0 f1 f2 a k := by kernel_rfl
theorem mulG2_sat (f0 : Fp6 → Pg2) (f1 : Fp6 → List UInt64 → Fp6) (f2 : Pg2 → Fp6) (a : Pg2) (k : Fr) : (mulG2_T f0 f1 f2 a k).sat fun q => q = some (mulG2_G f0 f1 f2 a k) := (show some _ = some _ from rfl)
def mulG2 (a : Pg2) (k : Fr) : Pg2 := mulG2_G laysG2 timesG2 liftG2 a k
theorem mulG2_ok : CallOk Try.prog 42 (K2 (kRow Pg2).arg (kRow Fr).arg (kRow Pg2).rs.res mulG2) :=
  P2 (En_ok (.cons laysG2_ok (.cons timesG2_ok (.cons liftG2_ok .nil)))) Try.func42 (bodied Try.func42 (by kernel_rfl) (by kernel_rfl)) 300 (kRow Pg2) (kRow Fr) (kRow Pg2).rs mulG2 (mulG2_run laysG2 timesG2 liftG2) (mulG2_sat laysG2 timesG2 liftG2)
def inG2_G (f0 : Pg2 → Bool) (f1 : Fp2 → Bool) (f2 : Fp6 → List UInt64 → Fp6) (f3 : Pg2 → Fp6) (f4 : Fr) (a : Pg2) : Bool := (match (f0 a) with | true => ((f1 (f2 (f3 a) [f4.l0, f4.l1, f4.l2, f4.l3]).c2)) | false => ((false)))
def inG2_T (f0 : Pg2 → Bool) (f1 : Fp2 → Bool) (f2 : Fp6 → List UInt64 → Fp6) (f3 : Pg2 → Fp6) (f4 : Fr) (a : Pg2) : Tree (Option (Bool)) :=
  (.br (f0 a)
    (.leaf (some ((f1 (f2 (f3 a) [f4.l0, f4.l1, f4.l2, f4.l3]).c2))))
    (.leaf (some ((false)))))
theorem inG2_run (f0 : Pg2 → Bool) (f1 : Fp2 → Bool) (f2 : Fp6 → List UInt64 → Fp6) (f3 : Pg2 → Fp6) (f4 : Fr) (a : Pg2) : plainRun (Ens [(45, K1 (kRow Pg2).arg kBool.rs.res f0), (97, K1 (kRow Fp2).arg kBool.rs.res f1), (88, K2 ks2.arg aL ks2.rs.res f2), (83, K1 (kRow Pg2).arg (kRow Fp6).rs.res f3), (74, K0 (rS4 24) f4)] [74]) kBool.rs 300 Try.f50 [.one ((kRow Pg2).av a)] = inG2_T f0 f1 f2 f3 f4 a := by kernel_rfl
theorem inG2_sat (f0 : Pg2 → Bool) (f1 : Fp2 → Bool) (f2 : Fp6 → List UInt64 → Fp6) (f3 : Pg2 → Fp6) (f4 : Fr) (a : Pg2) : (inG2_T f0 f1 f2 f3 f4 a).sat fun q => q = some (inG2_G f0 f1 f2 f3 f4 a) := ⟨fun h0 => (show some _ = some _ from congrArg some (by unfold inG2_G; rw [h0])), fun h0 => (show some _ = some _ from congrArg some (by unfold inG2_G; rw [h0]))⟩
def inG2 (a : Pg2) : Bool := inG2_G onG2 zeroG2 timesG2 liftG2 rLimbs a
theorem inG2_ok : CallOk Try.prog 50 (K1 (kRow Pg2).arg kBool.rs.res inG2) :=
  P1 (Ens_ok (.cons onG2_ok (.cons zeroG2_ok (.cons timesG2_ok (.cons liftG2_ok (.cons R4_ok .nil)))))) Try.func50 (bodied Try.func50 (by kernel_rfl) (by kernel_rfl)) 300 (kRow Pg2) kBool.rs inG2 (inG2_run onG2 zeroG2 timesG2 liftG2 rLimbs) (inG2_sat onG2 zeroG2 timesG2 liftG2 rLimbs)

end Go.Proofs.Ytchlamfdofpolaa
