/- Texts of the proof, joined. -/
import Derived.Test.YtbbnabednkopdaaGreatZJo6
set_option linter.unusedSimpArgs false
set_option linter.unusedVariables false
namespace Go.Proofs.YtbbnabednkopdaaGreat
open Go.RowKit
abbrev ks1 : Kd Sp1 := kRow Sp1
def tmSt1 (e : List UInt64) (x : Sp1) (cs : List Cell) (z : Int) : St := mkSt 31 [(1, inV 0 e), (2, ptrV 1), (4, ptrV 2), (5, ptrV 3), (6, vI z)] [inHE eU64 e, own 146 (Row.cs x), own 146 (zeros 18), own 146 cs]
def tTm1 (tw : Sp1 → Sp1) (pl : Sp1 → Sp1 → Sp1) : Table := [(192, K1 ks1.arg ks1.rs.res tw), (193, K2 ks1.arg ks1.arg ks1.rs.res pl)]
theorem tm1_front (T : Table) (x : Sp1) (e : List UInt64) : stageT (En T) 100 ((flat (codeOf Tryz.f150)).take 1) (startSt Tryz.f150 [.one (ks1.av x), iL.av 0 e] [inHE eU64 e]) [1, 2, 4] [0, 1, 2] =
    .leaf (mkSt 31 [(1, inV 0 e), (2, ptrV 1), (4, ptrV 2)] [inHE eU64 e, own 146 (Row.cs x), own 146 (zeros 18)]) := by kernel_rfl
theorem tm1_start (tw : Sp1 → Sp1) (pl : Sp1 → Sp1 → Sp1) (x : Sp1) (e : List UInt64) : stageT (En (tTm1 tw pl)) 100 ((flat (scopeOf Tryz.f150)).take 3) (mkSt 31 [(1, inV 0 e), (2, ptrV 1), (4, ptrV 2)] [inHE eU64 e, own 146 (Row.cs x), own 146 (zeros 18)]) [1, 2, 4, 5, 6] [0, 1, 2, 3] =
    .vc (0 + e.length * 1 ≤ (eU64.body e).cells.length ∧ 0 < 1) (.leaf (tmSt1 e x (zeros 18) (IntKind.i64.wrap (64 * e.length)))) := by kernel_rfl
theorem tm1_iter (tw : Sp1 → Sp1) (pl : Sp1 → Sp1 → Sp1) (x o : Sp1) (e : List UInt64) (z : Int) : iterT (En (tTm1 tw pl)) ks1.rs.out 100 Tryz.f150 ((flat (scopeOf Tryz.f150)).drop 3) (tmSt1 e x (Row.cs o) z) [1, 2, 4, 5, 6] [0, 1, 2, 3] =
    .br (decide (IntKind.i64.wrap (z - 1) < 0)) (.leaf (.inr (some (o, .t))))
      (.vc ((0 ≤ quoZ z ∧ quoZ z < e.length) ∧ 0 + e.length * 1 ≤ (eU64.body e).cells.length ∧ 0 < 1) (.vc (0 + (quoZ z).toNat * 1 < e.length)
        (.br (bitZ e z) (.leaf (.inl (.goto 0, tmSt1 e x (Row.cs (pl (tw o) x)) (IntKind.i64.wrap (z - 1))))) (.leaf (.inl (.goto 0, tmSt1 e x (Row.cs (tw o)) (IntKind.i64.wrap (z - 1)))))))) := by kernel_rfl
theorem tm1_first (tw : Sp1 → Sp1) (pl : Sp1 → Sp1 → Sp1) (x : Sp1) (e : List UInt64) (z : Int) : iterT (En (tTm1 tw pl)) ks1.rs.out 100 Tryz.f150 ((flat (scopeOf Tryz.f150)).drop 3) (tmSt1 e x (zeros 18) z) [1, 2, 4, 5, 6] [0, 1, 2, 3] =
    .br (decide (IntKind.i64.wrap (z - 1) < 0)) (.leaf (.inr (some (zeroSp, .t))))
      (.vc ((0 ≤ quoZ z ∧ quoZ z < e.length) ∧ 0 + e.length * 1 ≤ (eU64.body e).cells.length ∧ 0 < 1) (.vc (0 + (quoZ z).toNat * 1 < e.length)
        (.br (bitZ e z) (.leaf (.inl (.goto 0, tmSt1 e x (Row.cs (pl (tw zeroSp) x)) (IntKind.i64.wrap (z - 1))))) (.leaf (.inl (.goto 0, tmSt1 e x (Row.cs (tw zeroSp)) (IntKind.i64.wrap (z - 1)))))))) := by kernel_rfl
def outC1 (b : Bool) (o : Sp1) : List Cell := match b with
  | true => zeros 18
  | false => Row.cs o
def timesG1 (x : Sp1) (e : List UInt64) : Sp1 := dblG twiceG1 (fun o => plusG1 o x) e (64 * e.length) zeroSp
abbrev Tm1Ok (x : Sp1) (e : List UInt64) : Type := { q : Bool × Int × Sp1 // 0 ≤ q.2.1 ∧ q.2.1 ≤ 64 * e.length ∧ (q.1 = true → q.2.2 = zeroSp) ∧ dblG twiceG1 (fun o => plusG1 o x) e q.2.1.toNat q.2.2 = timesG1 x e }
def tm1I (x : Sp1) (e : List UInt64) (q : Tm1Ok x e) : St := tmSt1 e x (outC1 q.1.1 q.1.2.2) q.1.2.1
theorem tm1_iterB (x : Sp1) (e : List UInt64) (b : Bool) (o : Sp1) (hb : b = true → o = zeroSp) (z : Int) : iterT (En (tTm1 twiceG1 plusG1)) ks1.rs.out 100 Tryz.f150 ((flat (scopeOf Tryz.f150)).drop 3) (tmSt1 e x (outC1 b o) z) [1, 2, 4, 5, 6] [0, 1, 2, 3] =
    .br (decide (IntKind.i64.wrap (z - 1) < 0)) (.leaf (.inr (some (o, .t))))
      (.vc ((0 ≤ quoZ z ∧ quoZ z < e.length) ∧ 0 + e.length * 1 ≤ (eU64.body e).cells.length ∧ 0 < 1) (.vc (0 + (quoZ z).toNat * 1 < e.length)
        (.br (bitZ e z) (.leaf (.inl (.goto 0, tmSt1 e x (Row.cs (plusG1 (twiceG1 o) x)) (IntKind.i64.wrap (z - 1))))) (.leaf (.inl (.goto 0, tmSt1 e x (Row.cs (twiceG1 o)) (IntKind.i64.wrap (z - 1)))))))) := by
  cases b with
  | true =>
    rw [hb rfl]
    exact tm1_first twiceG1 plusG1 x e z
  | false => exact tm1_iter twiceG1 plusG1 x o e z
theorem timesG1_ok : CallOk Tryz.prog 150 (K2 ks1.arg aL ks1.rs.res timesG1) :=
  Go.Proofs.YtbbnabednkopdaaGreat.G2 (E := En (tTm1 twiceG1 plusG1)) Tryz.func150 (c := codeOf Tryz.f150) (by kernel_rfl) (bodied Tryz.func150 (by kernel_rfl) (by kernel_rfl)) ks1.inp iL ks1.rs.out timesG1 fun x e _ he => by
    have hE : EnvOk (En (tTm1 twiceG1 plusG1)) := En_ok (.cons twiceG1_ok (.cons plusG1_ok .nil))
    have he : e.length < 1125899906842624 := he
    have hw : IntKind.i64.wrap (64 * (e.length : Int)) = 64 * (e.length : Int) := IntWalk.i64_in _ (by omega)
    refine DoesL.stageE hE 100 1 [1, 2, 4] [0, 1, 2] (tm1_front _ x e) ?_
    refine DoesL.scopeFn (body := scopeOf Tryz.f150) (rest := restOf Tryz.f150) (tail := []) (l := 0) hE (by kernel_rfl) (by kernel_rfl) 100 3 (by kernel_rfl) [1, 2, 4, 5, 6] [0, 1, 2, 3] (tm1I x e) (fun q => q.1.2.1.toNat)
      ⟨(true, 64 * (e.length : Int), zeroSp), by simp only []; omega, by simp only []; omega, fun _ => rfl, by rw [show ((true, 64 * (e.length : Int), zeroSp) : Bool × Int × Sp1).2.1.toNat = 64 * e.length by simp only []; omega]; simp only [timesG1]⟩
      (tm1_start twiceG1 plusG1 x e) ⟨⟨by rw [cells_len]; omega, by decide⟩, fun _ => by rw [hw]; exact Tree.sat_leaf (by simp only [tm1I, outC1])⟩ fun q => ?_
    obtain ⟨⟨b, z, o⟩, h0, h1, hb, h2⟩ := q
    simp only [] at h0 h1 h2 hb
    have hz : IntKind.i64.wrap (z - 1) = z - 1 := IntWalk.i64_in _ (by omega)
    refine DoesL.iter hE 100 [1, 2, 4, 5, 6] [0, 1, 2, 3] (tm1_iterB x e b o hb z) ?_
    rw [hz]
    refine ⟨fun h => ?_, fun h => ?_⟩
    · simp only [decide_eq_true_eq] at h
      obtain rfl : z = 0 := by omega
      exact ⟨.t, by rw [← h2]; rfl, trivial⟩
    · simp only [decide_eq_false_iff_not] at h
      obtain ⟨n, rfl⟩ : ∃ n : Nat, z = (n : Int) + 1 := ⟨(z - 1).toNat, by omega⟩
      rw [quoZ_nat n (by omega), bitZ_nat e n (by omega)]
      rw [show ((n : Int) + 1).toNat = n + 1 by omega] at h2
      simp only [dblG] at h2
      refine ⟨⟨⟨by omega, by omega⟩, by rw [cells_len]; omega, by decide⟩, fun _ => ⟨by omega, fun _ => ⟨fun h3 => ?_, fun h3 => ?_⟩⟩⟩
      all_goals
        have hn : ((n : Int) + 1 - 1).toNat = n := by omega
        rw [h3] at h2
        simp only [] at h2
      · refine ⟨rfl, ⟨(false, (n : Int) + 1 - 1, plusG1 (twiceG1 o) x), ?_, ?_, ?_, ?_⟩, ?_, by simp only [tm1I, outC1]⟩
        · show 0 ≤ (n : Int) + 1 - 1; omega
        · show (n : Int) + 1 - 1 ≤ 64 * e.length; omega
        · intro h; cases h
        · simpa only [hn] using h2
        · show ((n : Int) + 1 - 1).toNat < ((n : Int) + 1).toNat; omega
      · refine ⟨rfl, ⟨(false, (n : Int) + 1 - 1, twiceG1 o), ?_, ?_, ?_, ?_⟩, ?_, by simp only [tm1I, outC1]⟩
        · show 0 ≤ (n : Int) + 1 - 1; omega
        · show (n : Int) + 1 - 1 ≤ 64 * e.length; omega
        · intro h; cases h
        · simpa only [hn] using h2
        · show ((n : Int) + 1 - 1).toNat < ((n : Int) + 1).toNat; omega
def inG1_G (f0 : Pg1 → Bool) (f1 : Fp → Bool) (f2 : Sp1 → List UInt64 → Sp1) (f3 : Pg1 → Sp1) (f4 : Fr) (a : Pg1) : Bool := (match (f0 a) with | true => ((f1 (f2 (f3 a) [f4.l0, f4.l1, f4.l2, f4.l3]).z)) | false => ((false)))
def inG1_T (f0 : Pg1 → Bool) (f1 : Fp → Bool) (f2 : Sp1 → List UInt64 → Sp1) (f3 : Pg1 → Sp1) (f4 : Fr) (a : Pg1) : Tree (Option (Bool)) :=
  (.br (f0 a)
    (.leaf (some ((f1 (f2 (f3 a) [f4.l0, f4.l1, f4.l2, f4.l3]).z))))
    (.leaf (some ((false)))))
theorem inG1_run (f0 : Pg1 → Bool) (f1 : Fp → Bool) (f2 : Sp1 → List UInt64 → Sp1) (f3 : Pg1 → Sp1) (f4 : Fr) (a : Pg1) : plainRun (Ens [(148, K1 (kRow Pg1).arg kBool.rs.res f0), (149, K1 (kRow Fp).arg kBool.rs.res f1), (150, K2 ks1.arg aL ks1.rs.res f2), (151, K1 (kRow Pg1).arg (kRow Sp1).rs.res f3), (152, K0 (rS4 27) f4)] [152]) kBool.rs 300 Tryz.f97 [.one ((kRow Pg1).av a)] = inG1_T f0 f1 f2 f3 f4 a := by kernel_rfl
theorem inG1_sat (f0 : Pg1 → Bool) (f1 : Fp → Bool) (f2 : Sp1 → List UInt64 → Sp1) (f3 : Pg1 → Sp1) (f4 : Fr) (a : Pg1) : (inG1_T f0 f1 f2 f3 f4 a).sat fun q => q = some (inG1_G f0 f1 f2 f3 f4 a) := ⟨fun h0 => (show some _ = some _ from congrArg some (by unfold inG1_G; rw [h0])), fun h0 => (show some _ = some _ from congrArg some (by unfold inG1_G; rw [h0]))⟩
def inG1 (a : Pg1) : Bool := inG1_G onG1 zeroG1 timesG1 liftG1 rLimbs a
theorem inG1_ok : CallOk Tryz.prog 97 (K1 (kRow Pg1).arg kBool.rs.res inG1) :=
  P1 (Ens_ok (.cons onG1_ok (.cons zeroG1_ok (.cons timesG1_ok (.cons liftG1_ok (.cons R4_ok .nil)))))) Tryz.func97 (bodied Tryz.func97 (by kernel_rfl) (by kernel_rfl)) 300 (kRow Pg1) kBool.rs inG1 (inG1_run onG1 zeroG1 timesG1 liftG1 rLimbs) (inG1_sat onG1 zeroG1 timesG1 liftG1 rLimbs)
end Go.Proofs.YtbbnabednkopdaaGreat

set_option linter.unusedSimpArgs false
set_option linter.unusedVariables false
namespace Go.Proofs.YtbbnabednkopdaaGreat
open Go.RowKit
abbrev ks2 : Kd Fp6 := kRow Fp6
def tmSt2 (e : List UInt64) (x : Fp6) (cs : List Cell) (z : Int) : St := mkSt 31 [(1, inV 0 e), (2, ptrV 1), (4, ptrV 2), (5, ptrV 3), (6, vI z)] [inHE eU64 e, own 154 (Row.cs x), own 154 (zeros 36), own 154 cs]
def tTm2 (tw : Fp6 → Fp6) (pl : Fp6 → Fp6 → Fp6) : Table := [(198, K1 ks2.arg ks2.rs.res tw), (199, K2 ks2.arg ks2.arg ks2.rs.res pl)]
theorem tm2_front (T : Table) (x : Fp6) (e : List UInt64) : stageT (En T) 100 ((flat (codeOf Tryz.f162)).take 1) (startSt Tryz.f162 [.one (ks2.av x), iL.av 0 e] [inHE eU64 e]) [1, 2, 4] [0, 1, 2] =
    .leaf (mkSt 31 [(1, inV 0 e), (2, ptrV 1), (4, ptrV 2)] [inHE eU64 e, own 154 (Row.cs x), own 154 (zeros 36)]) := by kernel_rfl
theorem tm2_start (tw : Fp6 → Fp6) (pl : Fp6 → Fp6 → Fp6) (x : Fp6) (e : List UInt64) : stageT (En (tTm2 tw pl)) 100 ((flat (scopeOf Tryz.f162)).take 3) (mkSt 31 [(1, inV 0 e), (2, ptrV 1), (4, ptrV 2)] [inHE eU64 e, own 154 (Row.cs x), own 154 (zeros 36)]) [1, 2, 4, 5, 6] [0, 1, 2, 3] =
    .vc (0 + e.length * 1 ≤ (eU64.body e).cells.length ∧ 0 < 1) (.leaf (tmSt2 e x (zeros 36) (IntKind.i64.wrap (64 * e.length)))) := by kernel_rfl
theorem tm2_iter (tw : Fp6 → Fp6) (pl : Fp6 → Fp6 → Fp6) (x o : Fp6) (e : List UInt64) (z : Int) : iterT (En (tTm2 tw pl)) ks2.rs.out 100 Tryz.f162 ((flat (scopeOf Tryz.f162)).drop 3) (tmSt2 e x (Row.cs o) z) [1, 2, 4, 5, 6] [0, 1, 2, 3] =
    .br (decide (IntKind.i64.wrap (z - 1) < 0)) (.leaf (.inr (some (o, .t))))
      (.vc ((0 ≤ quoZ z ∧ quoZ z < e.length) ∧ 0 + e.length * 1 ≤ (eU64.body e).cells.length ∧ 0 < 1) (.vc (0 + (quoZ z).toNat * 1 < e.length)
        (.br (bitZ e z) (.leaf (.inl (.goto 0, tmSt2 e x (Row.cs (pl (tw o) x)) (IntKind.i64.wrap (z - 1))))) (.leaf (.inl (.goto 0, tmSt2 e x (Row.cs (tw o)) (IntKind.i64.wrap (z - 1)))))))) := by kernel_rfl
theorem tm2_first (tw : Fp6 → Fp6) (pl : Fp6 → Fp6 → Fp6) (x : Fp6) (e : List UInt64) (z : Int) : iterT (En (tTm2 tw pl)) ks2.rs.out 100 Tryz.f162 ((flat (scopeOf Tryz.f162)).drop 3) (tmSt2 e x (zeros 36) z) [1, 2, 4, 5, 6] [0, 1, 2, 3] =
    .br (decide (IntKind.i64.wrap (z - 1) < 0)) (.leaf (.inr (some (zeroFp6, .t))))
      (.vc ((0 ≤ quoZ z ∧ quoZ z < e.length) ∧ 0 + e.length * 1 ≤ (eU64.body e).cells.length ∧ 0 < 1) (.vc (0 + (quoZ z).toNat * 1 < e.length)
        (.br (bitZ e z) (.leaf (.inl (.goto 0, tmSt2 e x (Row.cs (pl (tw zeroFp6) x)) (IntKind.i64.wrap (z - 1))))) (.leaf (.inl (.goto 0, tmSt2 e x (Row.cs (tw zeroFp6)) (IntKind.i64.wrap (z - 1)))))))) := by kernel_rfl
def outC2 (b : Bool) (o : Fp6) : List Cell := match b with
  | true => zeros 36
  | false => Row.cs o
def timesG2 (x : Fp6) (e : List UInt64) : Fp6 := dblG twiceG2 (fun o => plusG2 o x) e (64 * e.length) zeroFp6
abbrev Tm2Ok (x : Fp6) (e : List UInt64) : Type := { q : Bool × Int × Fp6 // 0 ≤ q.2.1 ∧ q.2.1 ≤ 64 * e.length ∧ (q.1 = true → q.2.2 = zeroFp6) ∧ dblG twiceG2 (fun o => plusG2 o x) e q.2.1.toNat q.2.2 = timesG2 x e }
def tm2I (x : Fp6) (e : List UInt64) (q : Tm2Ok x e) : St := tmSt2 e x (outC2 q.1.1 q.1.2.2) q.1.2.1
theorem tm2_iterB (x : Fp6) (e : List UInt64) (b : Bool) (o : Fp6) (hb : b = true → o = zeroFp6) (z : Int) : iterT (En (tTm2 twiceG2 plusG2)) ks2.rs.out 100 Tryz.f162 ((flat (scopeOf Tryz.f162)).drop 3) (tmSt2 e x (outC2 b o) z) [1, 2, 4, 5, 6] [0, 1, 2, 3] =
    .br (decide (IntKind.i64.wrap (z - 1) < 0)) (.leaf (.inr (some (o, .t))))
      (.vc ((0 ≤ quoZ z ∧ quoZ z < e.length) ∧ 0 + e.length * 1 ≤ (eU64.body e).cells.length ∧ 0 < 1) (.vc (0 + (quoZ z).toNat * 1 < e.length)
        (.br (bitZ e z) (.leaf (.inl (.goto 0, tmSt2 e x (Row.cs (plusG2 (twiceG2 o) x)) (IntKind.i64.wrap (z - 1))))) (.leaf (.inl (.goto 0, tmSt2 e x (Row.cs (twiceG2 o)) (IntKind.i64.wrap (z - 1)))))))) := by
  cases b with
  | true =>
    rw [hb rfl]
    exact tm2_first twiceG2 plusG2 x e z
  | false => exact tm2_iter twiceG2 plusG2 x o e z
theorem timesG2_ok : CallOk Tryz.prog 162 (K2 ks2.arg aL ks2.rs.res timesG2) :=
  Go.Proofs.YtbbnabednkopdaaGreat.G2 (E := En (tTm2 twiceG2 plusG2)) Tryz.func162 (c := codeOf Tryz.f162) (by kernel_rfl) (bodied Tryz.func162 (by kernel_rfl) (by kernel_rfl)) ks2.inp iL ks2.rs.out timesG2 fun x e _ he => by
    have hE : EnvOk (En (tTm2 twiceG2 plusG2)) := En_ok (.cons twiceG2_ok (.cons plusG2_ok .nil))
    have he : e.length < 1125899906842624 := he
    have hw : IntKind.i64.wrap (64 * (e.length : Int)) = 64 * (e.length : Int) := IntWalk.i64_in _ (by omega)
    refine DoesL.stageE hE 100 1 [1, 2, 4] [0, 1, 2] (tm2_front _ x e) ?_
    refine DoesL.scopeFn (body := scopeOf Tryz.f162) (rest := restOf Tryz.f162) (tail := []) (l := 0) hE (by kernel_rfl) (by kernel_rfl) 100 3 (by kernel_rfl) [1, 2, 4, 5, 6] [0, 1, 2, 3] (tm2I x e) (fun q => q.1.2.1.toNat)
      ⟨(true, 64 * (e.length : Int), zeroFp6), by simp only []; omega, by simp only []; omega, fun _ => rfl, by rw [show ((true, 64 * (e.length : Int), zeroFp6) : Bool × Int × Fp6).2.1.toNat = 64 * e.length by simp only []; omega]; simp only [timesG2]⟩
      (tm2_start twiceG2 plusG2 x e) ⟨⟨by rw [cells_len]; omega, by decide⟩, fun _ => by rw [hw]; exact Tree.sat_leaf (by simp only [tm2I, outC2])⟩ fun q => ?_
    obtain ⟨⟨b, z, o⟩, h0, h1, hb, h2⟩ := q
    simp only [] at h0 h1 h2 hb
    have hz : IntKind.i64.wrap (z - 1) = z - 1 := IntWalk.i64_in _ (by omega)
    refine DoesL.iter hE 100 [1, 2, 4, 5, 6] [0, 1, 2, 3] (tm2_iterB x e b o hb z) ?_
    rw [hz]
    refine ⟨fun h => ?_, fun h => ?_⟩
    · simp only [decide_eq_true_eq] at h
      obtain rfl : z = 0 := by omega
      exact ⟨.t, by rw [← h2]; rfl, trivial⟩
    · simp only [decide_eq_false_iff_not] at h
      obtain ⟨n, rfl⟩ : ∃ n : Nat, z = (n : Int) + 1 := ⟨(z - 1).toNat, by omega⟩
      rw [quoZ_nat n (by omega), bitZ_nat e n (by omega)]
      rw [show ((n : Int) + 1).toNat = n + 1 by omega] at h2
      simp only [dblG] at h2
      refine ⟨⟨⟨by omega, by omega⟩, by rw [cells_len]; omega, by decide⟩, fun _ => ⟨by omega, fun _ => ⟨fun h3 => ?_, fun h3 => ?_⟩⟩⟩
      all_goals
        have hn : ((n : Int) + 1 - 1).toNat = n := by omega
        rw [h3] at h2
        simp only [] at h2
      · refine ⟨rfl, ⟨(false, (n : Int) + 1 - 1, plusG2 (twiceG2 o) x), ?_, ?_, ?_, ?_⟩, ?_, by simp only [tm2I, outC2]⟩
        · show 0 ≤ (n : Int) + 1 - 1; omega
        · show (n : Int) + 1 - 1 ≤ 64 * e.length; omega
        · intro h; cases h
        · simpa only [hn] using h2
        · show ((n : Int) + 1 - 1).toNat < ((n : Int) + 1).toNat; omega
      · refine ⟨rfl, ⟨(false, (n : Int) + 1 - 1, twiceG2 o), ?_, ?_, ?_, ?_⟩, ?_, by simp only [tm2I, outC2]⟩
        · show 0 ≤ (n : Int) + 1 - 1; omega
        · show (n : Int) + 1 - 1 ≤ 64 * e.length; omega
        · intro h; cases h
        · simpa only [hn] using h2
        · show ((n : Int) + 1 - 1).toNat < ((n : Int) + 1).toNat; omega
def inG2_G (f0 : Pg2 → Bool) (f1 : Fp2 → Bool) (f2 : Fp6 → List UInt64 → Fp6) (f3 : Pg2 → Fp6) (f4 : Fr) (a : Pg2) : Bool := (match (f0 a) with | true => ((f1 (f2 (f3 a) [f4.l0, f4.l1, f4.l2, f4.l3]).c2)) | false => ((false)))
def inG2_T (f0 : Pg2 → Bool) (f1 : Fp2 → Bool) (f2 : Fp6 → List UInt64 → Fp6) (f3 : Pg2 → Fp6) (f4 : Fr) (a : Pg2) : Tree (Option (Bool)) :=
  (.br (f0 a)
    (.leaf (some ((f1 (f2 (f3 a) [f4.l0, f4.l1, f4.l2, f4.l3]).c2))))
    (.leaf (some ((false)))))
theorem inG2_run (f0 : Pg2 → Bool) (f1 : Fp2 → Bool) (f2 : Fp6 → List UInt64 → Fp6) (f3 : Pg2 → Fp6) (f4 : Fr) (a : Pg2) : plainRun (Ens [(160, K1 (kRow Pg2).arg kBool.rs.res f0), (161, K1 (kRow Fp2).arg kBool.rs.res f1), (162, K2 ks2.arg aL ks2.rs.res f2), (163, K1 (kRow Pg2).arg (kRow Fp6).rs.res f3), (152, K0 (rS4 27) f4)] [152]) kBool.rs 300 Tryz.f104 [.one ((kRow Pg2).av a)] = inG2_T f0 f1 f2 f3 f4 a := by kernel_rfl
theorem inG2_sat (f0 : Pg2 → Bool) (f1 : Fp2 → Bool) (f2 : Fp6 → List UInt64 → Fp6) (f3 : Pg2 → Fp6) (f4 : Fr) (a : Pg2) : (inG2_T f0 f1 f2 f3 f4 a).sat fun q => q = some (inG2_G f0 f1 f2 f3 f4 a) := ⟨fun h0 => (show some _ = some _ from congrArg some (by unfold inG2_G; rw [h0])), fun h0 => (show some _ = some _ from congrArg some (by unfold inG2_G; rw [h0]))⟩
def inG2 (a : Pg2) : Bool := inG2_G onG2 zeroG2 timesG2 liftG2 rLimbs a
theorem inG2_ok : CallOk Tryz.prog 104 (K1 (kRow Pg2).arg kBool.rs.res inG2) :=
  P1 (Ens_ok (.cons onG2_ok (.cons zeroG2_ok (.cons timesG2_ok (.cons liftG2_ok (.cons R4_ok .nil)))))) Tryz.func104 (bodied Tryz.func104 (by kernel_rfl) (by kernel_rfl)) 300 (kRow Pg2) kBool.rs inG2 (inG2_run onG2 zeroG2 timesG2 liftG2 rLimbs) (inG2_sat onG2 zeroG2 timesG2 liftG2 rLimbs)
end Go.Proofs.YtbbnabednkopdaaGreat

set_option linter.unusedSimpArgs false
set_option linter.unusedVariables false
namespace Go.Proofs.YtbbnabednkopdaaGreat
open Go.RowKit
abbrev kp6 : Kd Fp6 := kRow Fp6
noncomputable abbrev tmRC : List Code := flat (codeOf Tryz.f68)
noncomputable abbrev tmRB : Code := loopAt Tryz.f68 0
abbrev Kadd5 (F : Fp6 → Fp6 → Bool → Fp6) : Contract := K3 kp6.arg kp6.arg kBool.arg kp6.rs.res F
noncomputable abbrev tmRE (o : Fp6) (aF : Fp6 → Fp6 → Bool → Fp6) (bF : List UInt64 → Nat → Bool) : Env := En [(127, K0 kp6.rs.res o), (71, Kadd5 aF), (61, Kbit bF)]
def tmRSt (e : List UInt64) (b : Bool) (p x : Fp6) (z : Int) : St := mkSt 30 [(1, inV 0 e), (2, .one (kBool.av b)), (3, ptrV 1), (6, ptrV 2), (7, ptrV 3), (8, vI z)] [inHE eU64 e, own 101 (Row.cs p), own 101 (zeros 36), own 101 (Row.cs x)]
theorem tmR_start (o : Fp6) (aF : Fp6 → Fp6 → Bool → Fp6) (bF : List UInt64 → Nat → Bool) (p : Fp6) (e : List UInt64) (b : Bool) : stageT (tmRE o aF bF) 100 (tmRC.take 3) (startSt Tryz.f68 [.one (kp6.av p), iL.av 0 e, .one (kBool.av b)] [inHE eU64 e]) [1, 2, 3, 6, 7, 8] [0, 1, 2, 3] =
  (.vc (0 + e.length * 1 ≤ (List.map EK.u64.cell e).length ∧ 0 < 1)
    (.leaf (mkSt 30 [(1, .one (.c (.slc 0 0 (e.length) 1 (.of 0) false))), (2, .one (.c (.bool (b)))), (3, .one (.c (.ptr 1 0))), (6, .one (.c (.ptr 2 0))), (7, .one (.c (.ptr 3 0))), (8, .one (.c (.int .i64 (IntKind.i64.wrap (IntKind.i64.wrap (64 * (↑e.length : Int)) - 1)))))] [.live ⟨false, 0, 1, (.elts .u64 (e : List UInt64)), false⟩, .live ⟨true, 101, 0, (.row (Row.cs (p : Fp6))), false⟩, .live ⟨true, 101, 0, (.row [(.lit .u64 0), (.lit .u64 0), (.lit .u64 0), (.lit .u64 0), (.lit .u64 0), (.lit .u64 0), (.lit .u64 0), (.lit .u64 0), (.lit .u64 0), (.lit .u64 0), (.lit .u64 0), (.lit .u64 0), (.lit .u64 0), (.lit .u64 0), (.lit .u64 0), (.lit .u64 0), (.lit .u64 0), (.lit .u64 0), (.lit .u64 0), (.lit .u64 0), (.lit .u64 0), (.lit .u64 0), (.lit .u64 0), (.lit .u64 0), (.lit .u64 0), (.lit .u64 0), (.lit .u64 0), (.lit .u64 0), (.lit .u64 0), (.lit .u64 0), (.lit .u64 0), (.lit .u64 0), (.lit .u64 0), (.lit .u64 0), (.lit .u64 0), (.lit .u64 0)]), false⟩, .live ⟨true, 101, 0, (.row (Row.cs (o : Fp6))), false⟩]))) := by kernel_rfl
theorem tmR_round (o : Fp6) (aF : Fp6 → Fp6 → Bool → Fp6) (bF : List UInt64 → Nat → Bool) (p x : Fp6) (e : List UInt64) (b : Bool) (z : Int) : roundT (tmRE o aF bF) 100 tmRB (tmRSt e b p x z) (same [1, 2, 3, 6, 7, 8] [0, 1, 2, 3]) =
  (.br (decide (z ≥ 0))
    (.vc (((0 + e.length ≤ e.length ∧ e.length < 1125899906842624 ∧ 0 = 0 ∧ 1 = 1) ∧ 0 ≤ z) ∧ bitIn (List.take e.length (List.drop 0 e)) z.toNat)
      (.br (bF (List.take e.length (List.drop 0 e)) z.toNat)
        (.leaf ((.normal, mkSt 30 [(1, .one (.c (.slc 0 0 (e.length) 1 (.of 0) false))), (2, .one (.c (.bool (b)))), (3, .one (.c (.ptr 1 0))), (6, .one (.c (.ptr 2 0))), (7, .one (.c (.ptr 3 0))), (8, .one (.c (.int .i64 (IntKind.i64.wrap (z - 1)))))] [.live ⟨false, 0, 1, (.elts .u64 (e : List UInt64)), false⟩, .live ⟨true, 101, 0, (.row (Row.cs (p : Fp6))), false⟩, .live ⟨true, 101, 0, (.row [(.lit .u64 0), (.lit .u64 0), (.lit .u64 0), (.lit .u64 0), (.lit .u64 0), (.lit .u64 0), (.lit .u64 0), (.lit .u64 0), (.lit .u64 0), (.lit .u64 0), (.lit .u64 0), (.lit .u64 0), (.lit .u64 0), (.lit .u64 0), (.lit .u64 0), (.lit .u64 0), (.lit .u64 0), (.lit .u64 0), (.lit .u64 0), (.lit .u64 0), (.lit .u64 0), (.lit .u64 0), (.lit .u64 0), (.lit .u64 0), (.lit .u64 0), (.lit .u64 0), (.lit .u64 0), (.lit .u64 0), (.lit .u64 0), (.lit .u64 0), (.lit .u64 0), (.lit .u64 0), (.lit .u64 0), (.lit .u64 0), (.lit .u64 0), (.lit .u64 0)]), false⟩, .live ⟨true, 101, 0, (.row (Row.cs (aF (aF x x b) p b : Fp6))), false⟩])))
        (.leaf ((.normal, mkSt 30 [(1, .one (.c (.slc 0 0 (e.length) 1 (.of 0) false))), (2, .one (.c (.bool (b)))), (3, .one (.c (.ptr 1 0))), (6, .one (.c (.ptr 2 0))), (7, .one (.c (.ptr 3 0))), (8, .one (.c (.int .i64 (IntKind.i64.wrap (z - 1)))))] [.live ⟨false, 0, 1, (.elts .u64 (e : List UInt64)), false⟩, .live ⟨true, 101, 0, (.row (Row.cs (p : Fp6))), false⟩, .live ⟨true, 101, 0, (.row [(.lit .u64 0), (.lit .u64 0), (.lit .u64 0), (.lit .u64 0), (.lit .u64 0), (.lit .u64 0), (.lit .u64 0), (.lit .u64 0), (.lit .u64 0), (.lit .u64 0), (.lit .u64 0), (.lit .u64 0), (.lit .u64 0), (.lit .u64 0), (.lit .u64 0), (.lit .u64 0), (.lit .u64 0), (.lit .u64 0), (.lit .u64 0), (.lit .u64 0), (.lit .u64 0), (.lit .u64 0), (.lit .u64 0), (.lit .u64 0), (.lit .u64 0), (.lit .u64 0), (.lit .u64 0), (.lit .u64 0), (.lit .u64 0), (.lit .u64 0), (.lit .u64 0), (.lit .u64 0), (.lit .u64 0), (.lit .u64 0), (.lit .u64 0), (.lit .u64 0)]), false⟩, .live ⟨true, 101, 0, (.row (Row.cs (aF x x b : Fp6))), false⟩])))))
    (.leaf ((.exit 0, mkSt 30 [(1, .one (.c (.slc 0 0 (e.length) 1 (.of 0) false))), (2, .one (.c (.bool (b)))), (3, .one (.c (.ptr 1 0))), (6, .one (.c (.ptr 2 0))), (7, .one (.c (.ptr 3 0))), (8, .one (.c (.int .i64 (z))))] [.live ⟨false, 0, 1, (.elts .u64 (e : List UInt64)), false⟩, .live ⟨true, 101, 0, (.row (Row.cs (p : Fp6))), false⟩, .live ⟨true, 101, 0, (.row [(.lit .u64 0), (.lit .u64 0), (.lit .u64 0), (.lit .u64 0), (.lit .u64 0), (.lit .u64 0), (.lit .u64 0), (.lit .u64 0), (.lit .u64 0), (.lit .u64 0), (.lit .u64 0), (.lit .u64 0), (.lit .u64 0), (.lit .u64 0), (.lit .u64 0), (.lit .u64 0), (.lit .u64 0), (.lit .u64 0), (.lit .u64 0), (.lit .u64 0), (.lit .u64 0), (.lit .u64 0), (.lit .u64 0), (.lit .u64 0), (.lit .u64 0), (.lit .u64 0), (.lit .u64 0), (.lit .u64 0), (.lit .u64 0), (.lit .u64 0), (.lit .u64 0), (.lit .u64 0), (.lit .u64 0), (.lit .u64 0), (.lit .u64 0), (.lit .u64 0)]), false⟩, .live ⟨true, 101, 0, (.row (Row.cs (x : Fp6))), false⟩])))) := by kernel_rfl
theorem tmR_end (o : Fp6) (aF : Fp6 → Fp6 → Bool → Fp6) (bF : List UInt64 → Nat → Bool) (p x : Fp6) (e : List UInt64) (b : Bool) (z : Int) : endT (tmRE o aF bF) kp6.rs.out 100 Tryz.f68 (tmRC.drop 4) (tmRSt e b p x z) =
  (.leaf (some ((x, .t)))) := by kernel_rfl
def timesR (p : Fp6) (e : List UInt64) (b : Bool) : Fp6 := dblG (fun x => addS5 x x b) (fun x => addS5 x p b) e (64 * e.length) none5
abbrev TmROk (p : Fp6) (e : List UInt64) (b : Bool) : Type := { q : Int × Fp6 // -1 ≤ q.1 ∧ q.1 < 64 * e.length ∧ dblG (fun x => addS5 x x b) (fun x => addS5 x p b) e (q.1 + 1).toNat q.2 = timesR p e b }
theorem timesR_ok : CallOk Tryz.prog 68 (K3 kp6.arg aL kBool.arg kp6.rs.res timesR) :=
  Go.Proofs.YtbbnabednkopdaaGreat.G3 (E := tmRE none5 addS5 bitAt) Tryz.func68 (c := codeOf Tryz.f68) (by kernel_rfl) (bodied Tryz.func68 (by kernel_rfl) (by kernel_rfl)) kp6.inp iL kBool.inp kp6.rs.out timesR fun p e b _ he _ => by
    have hE : EnvOk (tmRE none5 addS5 bitAt) := En_ok (.cons none5_ok (.cons addS5_ok (.cons bit5_ok .nil)))
    have he : e.length < 1125899906842624 := he
    refine DoesL.stageE hE 100 3 _ _ (tmR_start none5 addS5 bitAt p e b) ⟨vcLen e, fun _ => ?_⟩
    have hw : IntKind.i64.wrap (IntKind.i64.wrap (64 * (e.length : Int)) - 1) = 64 * (e.length : Int) - 1 := by rw [IntWalk.i64_in (64 * (e.length : Int)) (by omega), IntWalk.i64_in _ (by omega)]
    rw [hw]
    refine DoesL.blockLoop (B := tmRB) (rest := tmRC.drop 4) (id := 0) (by kernel_rfl) (fun q : TmROk p e b => tmRSt e b p q.1.2 q.1.1) (fun q => (q.1.1 + 1).toNat) ⟨(64 * (e.length : Int) - 1, none5), by simp only []; omega, by simp only []; omega, by
      simp only []
      rw [show (64 * (e.length : Int) - 1 + 1).toNat = 64 * e.length by omega]
      simp only [timesR]⟩ fun q => ?_
    obtain ⟨⟨z, x⟩, h0, h1, h2⟩ := q
    simp only [] at h0 h1 h2
    show Does _ _ (tmRSt e b p x z) _
    refine Does.round hE 100 _ (tmR_round none5 addS5 bitAt p x e b z) ⟨fun h => ?_, fun h => ?_⟩
    · simp only [ge_iff_le, decide_eq_true_eq] at h
      obtain ⟨n, rfl⟩ : ∃ n : Nat, z = (n : Int) := ⟨z.toNat, by omega⟩
      rw [wrap_pred n (by omega), whole, Int.toNat_natCast]
      rw [show ((n : Int) + 1).toNat = n + 1 by omega] at h2
      simp only [dblG] at h2
      refine ⟨⟨⟨okL' he, by omega⟩, by show n < 64 * e.length; omega⟩, fun _ => ⟨fun h3 => ?_, fun h3 => ?_⟩⟩
      all_goals
        have hn : ((n : Int) - 1 + 1).toNat = n := by omega
        rw [h3] at h2
        simp only [] at h2
      · refine ⟨⟨((n : Int) - 1, addS5 (addS5 x x b) p b), ?_, ?_, ?_⟩, ?_, ?_⟩
        · show -1 ≤ (n : Int) - 1; omega
        · show (n : Int) - 1 < 64 * e.length; omega
        · simpa only [hn] using h2
        · show ((n : Int) - 1 + 1).toNat < ((n : Int) + 1).toNat; omega
        · kernel_rfl
      · refine ⟨⟨((n : Int) - 1, addS5 x x b), ?_, ?_, ?_⟩, ?_, ?_⟩
        · show -1 ≤ (n : Int) - 1; omega
        · show (n : Int) - 1 < 64 * e.length; omega
        · simpa only [hn] using h2
        · show ((n : Int) - 1 + 1).toNat < ((n : Int) + 1).toNat; omega
        · kernel_rfl
    · simp only [ge_iff_le, decide_eq_false_iff_not] at h
      obtain rfl : z = -1 := by omega
      exact ⟨rfl, DoesL.ends hE 100 (tmR_end none5 addS5 bitAt p x e b (-1)) (reads_t (by
        rw [show ((-1 : Int) + 1).toNat = 0 from rfl] at h2
        simp only [dblG] at h2
        exact h2))⟩
def times1R_G (f0 : Fp6 → Pg1) (f1 : Fp6 → List UInt64 → Bool → Fp6) (f2 : Pg1 → Fp6) (a : Pg1) (k : Fr) : Pg1 := (f0 (f1 (f2 a) [k.l0, k.l1, k.l2, k.l3] true))
def times1R_T (f0 : Fp6 → Pg1) (f1 : Fp6 → List UInt64 → Bool → Fp6) (f2 : Pg1 → Fp6) (a : Pg1) (k : Fr) : Tree (Option (Pg1)) :=
  (.leaf (some (f0 (f1 (f2 a) [k.l0, k.l1, k.l2, k.l3] true))))
theorem times1R_run (f0 : Fp6 → Pg1) (f1 : Fp6 → List UInt64 → Bool → Fp6) (f2 : Pg1 → Fp6) (a : Pg1) (k : Fr) : plainRun (En [(67, K1 (kRow Fp6).arg (kRow Pg1).rs.res f0), (68, K3 kp6.arg aL kBool.arg kp6.rs.res f1), (69, K1 (kRow Pg1).arg (kRow Fp6).rs.res f2)]) (kRow Pg1).rs 300 Tryz.f35 [.one ((kRow Pg1).av a), .one ((kRow Fr).av k)] = times1R_T f0 f1 f2 a k := by kernel_rfl
theorem times1R_sat (f0 : Fp6 → Pg1) (f1 : Fp6 → List UInt64 → Bool → Fp6) (f2 : Pg1 → Fp6) (a : Pg1) (k : Fr) : (times1R_T f0 f1 f2 a k).sat fun q => q = some (times1R_G f0 f1 f2 a k) := (show some _ = some _ from rfl)
def times1R (a : Pg1) (k : Fr) : Pg1 := times1R_G to1R timesR of1R a k
theorem times1R_ok : CallOk Tryz.prog 35 (K2 (kRow Pg1).arg (kRow Fr).arg (kRow Pg1).rs.res times1R) :=
  P2 (En_ok (.cons to1R_ok (.cons timesR_ok (.cons of1R_ok .nil)))) Tryz.func35 (bodied Tryz.func35 (by kernel_rfl) (by kernel_rfl)) 300 (kRow Pg1) (kRow Fr) (kRow Pg1).rs times1R (times1R_run to1R timesR of1R) (times1R_sat to1R timesR of1R)
def times2R_G (f0 : Fp6 → Pg2) (f1 : Fp6 → List UInt64 → Bool → Fp6) (f2 : Pg2 → Fp6) (a : Pg2) (k : Fr) : Pg2 := (f0 (f1 (f2 a) [k.l0, k.l1, k.l2, k.l3] false))
def times2R_T (f0 : Fp6 → Pg2) (f1 : Fp6 → List UInt64 → Bool → Fp6) (f2 : Pg2 → Fp6) (a : Pg2) (k : Fr) : Tree (Option (Pg2)) :=
  (.leaf (some (f0 (f1 (f2 a) [k.l0, k.l1, k.l2, k.l3] false))))
theorem times2R_run (f0 : Fp6 → Pg2) (f1 : Fp6 → List UInt64 → Bool → Fp6) (f2 : Pg2 → Fp6) (a : Pg2) (k : Fr) : plainRun (En [(75, K1 (kRow Fp6).arg (kRow Pg2).rs.res f0), (68, K3 kp6.arg aL kBool.arg kp6.rs.res f1), (76, K1 (kRow Pg2).arg (kRow Fp6).rs.res f2)]) (kRow Pg2).rs 300 Tryz.f36 [.one ((kRow Pg2).av a), .one ((kRow Fr).av k)] = times2R_T f0 f1 f2 a k := by kernel_rfl
theorem times2R_sat (f0 : Fp6 → Pg2) (f1 : Fp6 → List UInt64 → Bool → Fp6) (f2 : Pg2 → Fp6) (a : Pg2) (k : Fr) : (times2R_T f0 f1 f2 a k).sat fun q => q = some (times2R_G f0 f1 f2 a k) := (show some _ = some _ from rfl)
def times2R (a : Pg2) (k : Fr) : Pg2 := times2R_G to2R timesR of2R a k
theorem times2R_ok : CallOk Tryz.prog 36 (K2 (kRow Pg2).arg (kRow Fr).arg (kRow Pg2).rs.res times2R) :=
  P2 (En_ok (.cons to2R_ok (.cons timesR_ok (.cons of2R_ok .nil)))) Tryz.func36 (bodied Tryz.func36 (by kernel_rfl) (by kernel_rfl)) 300 (kRow Pg2) (kRow Fr) (kRow Pg2).rs times2R (times2R_run to2R timesR of2R) (times2R_sat to2R timesR of2R)
end Go.Proofs.YtbbnabednkopdaaGreat

set_option linter.unusedSimpArgs false
set_option linter.unusedVariables false
namespace Go.Proofs.YtbbnabednkopdaaGreat
open Go.RowKit
abbrev aN : Arg Int := kInt.arg.such sizeB
def take1F_T (f0 : List UInt8 → Int → List UInt8 × Bool × Bool × Int) (f1 : List UInt8 → Fp × Int) (f2 : Fp → Fp × Bool) (f3 : Fp → Fp → Fp) (f4 : Fp → Fp → Fp) (f5 : UInt64 → Fp) (f6 : Pg1 → Pg1) (f7 : Pg1 → Bool) (b : List UInt8) : Tree (Option ((Pg1 × Int) × Pr)) :=
  (.vc (((0 + b.length ≤ b.length ∧ b.length < 1125899906842624 ∧ 0 = 0 ∧ 1 = 1) ∧ littleB (List.take b.length (List.drop 0 b))) ∧ sizeB 48)
    (.br ((f0 (List.take b.length (List.drop 0 b)) 48).snd.snd.snd != 0)
      (.leaf (some ((({ x := { l0 := UInt64.ofNat 0, l1 := UInt64.ofNat 0, l2 := UInt64.ofNat 0, l3 := UInt64.ofNat 0, l4 := UInt64.ofNat 0, l5 := UInt64.ofNat 0 }, y := { l0 := UInt64.ofNat 0, l1 := UInt64.ofNat 0, l2 := UInt64.ofNat 0, l3 := UInt64.ofNat 0, l4 := UInt64.ofNat 0, l5 := UInt64.ofNat 0 }, inf := false }, (f0 (List.take b.length (List.drop 0 b)) 48).snd.snd.snd), .t))))
      (.br ((f0 (List.take b.length (List.drop 0 b)) 48).snd.fst)
        (.leaf (some ((({ x := { l0 := UInt64.ofNat 0, l1 := UInt64.ofNat 0, l2 := UInt64.ofNat 0, l3 := UInt64.ofNat 0, l4 := UInt64.ofNat 0, l5 := UInt64.ofNat 0 }, y := { l0 := UInt64.ofNat 0, l1 := UInt64.ofNat 0, l2 := UInt64.ofNat 0, l3 := UInt64.ofNat 0, l4 := UInt64.ofNat 0, l5 := UInt64.ofNat 0 }, inf := true }, 0), .t))))
        (.vc ((0 + (f0 (List.take b.length (List.drop 0 b)) 48).fst.length ≤ (f0 (List.take b.length (List.drop 0 b)) 48).fst.length ∧ (f0 (List.take b.length (List.drop 0 b)) 48).fst.length < 1125899906842624 ∧ 0 = 0 ∧ 1 = 1) ∧ littleB (List.take (f0 (List.take b.length (List.drop 0 b)) 48).fst.length (List.drop 0 (f0 (List.take b.length (List.drop 0 b)) 48).fst)))
          (.br ((f1 (List.take (f0 (List.take b.length (List.drop 0 b)) 48).fst.length (List.drop 0 (f0 (List.take b.length (List.drop 0 b)) 48).fst))).snd != 0)
            (.leaf (some ((({ x := { l0 := UInt64.ofNat 0, l1 := UInt64.ofNat 0, l2 := UInt64.ofNat 0, l3 := UInt64.ofNat 0, l4 := UInt64.ofNat 0, l5 := UInt64.ofNat 0 }, y := { l0 := UInt64.ofNat 0, l1 := UInt64.ofNat 0, l2 := UInt64.ofNat 0, l3 := UInt64.ofNat 0, l4 := UInt64.ofNat 0, l5 := UInt64.ofNat 0 }, inf := false }, (f1 (List.take (f0 (List.take b.length (List.drop 0 b)) 48).fst.length (List.drop 0 (f0 (List.take b.length (List.drop 0 b)) 48).fst))).snd), .t))))
            (.br ((f0 (List.take b.length (List.drop 0 b)) 48).snd.snd.fst)
              (.br (!((f2 (f3 (f4 (f4 (f1 (List.take (f0 (List.take b.length (List.drop 0 b)) 48).fst.length (List.drop 0 (f0 (List.take b.length (List.drop 0 b)) 48).fst))).fst (f1 (List.take (f0 (List.take b.length (List.drop 0 b)) 48).fst.length (List.drop 0 (f0 (List.take b.length (List.drop 0 b)) 48).fst))).fst) (f1 (List.take (f0 (List.take b.length (List.drop 0 b)) 48).fst.length (List.drop 0 (f0 (List.take b.length (List.drop 0 b)) 48).fst))).fst) (f5 (UInt64.ofNat 4)))).snd))
                (.leaf (some ((({ x := { l0 := UInt64.ofNat 0, l1 := UInt64.ofNat 0, l2 := UInt64.ofNat 0, l3 := UInt64.ofNat 0, l4 := UInt64.ofNat 0, l5 := UInt64.ofNat 0 }, y := { l0 := UInt64.ofNat 0, l1 := UInt64.ofNat 0, l2 := UInt64.ofNat 0, l3 := UInt64.ofNat 0, l4 := UInt64.ofNat 0, l5 := UInt64.ofNat 0 }, inf := false }, 5), .t))))
                (.br ((f0 (List.take b.length (List.drop 0 b)) 48).snd.snd.fst)
                  (.br (fpEq ((f2 (f3 (f4 (f4 (f1 (List.take (f0 (List.take b.length (List.drop 0 b)) 48).fst.length (List.drop 0 (f0 (List.take b.length (List.drop 0 b)) 48).fst))).fst (f1 (List.take (f0 (List.take b.length (List.drop 0 b)) 48).fst.length (List.drop 0 (f0 (List.take b.length (List.drop 0 b)) 48).fst))).fst) (f1 (List.take (f0 (List.take b.length (List.drop 0 b)) 48).fst.length (List.drop 0 (f0 (List.take b.length (List.drop 0 b)) 48).fst))).fst) (f5 (UInt64.ofNat 4)))).fst) ({ l0 := UInt64.ofNat 0, l1 := UInt64.ofNat 0, l2 := UInt64.ofNat 0, l3 := UInt64.ofNat 0, l4 := UInt64.ofNat 0, l5 := UInt64.ofNat 0 }))
                    (.leaf (some ((({ x := { l0 := UInt64.ofNat 0, l1 := UInt64.ofNat 0, l2 := UInt64.ofNat 0, l3 := UInt64.ofNat 0, l4 := UInt64.ofNat 0, l5 := UInt64.ofNat 0 }, y := { l0 := UInt64.ofNat 0, l1 := UInt64.ofNat 0, l2 := UInt64.ofNat 0, l3 := UInt64.ofNat 0, l4 := UInt64.ofNat 0, l5 := UInt64.ofNat 0 }, inf := false }, 3), .t))))
                    (.br (!(f7 (f6 { x := (f1 (List.take (f0 (List.take b.length (List.drop 0 b)) 48).fst.length (List.drop 0 (f0 (List.take b.length (List.drop 0 b)) 48).fst))).fst, y := (f2 (f3 (f4 (f4 (f1 (List.take (f0 (List.take b.length (List.drop 0 b)) 48).fst.length (List.drop 0 (f0 (List.take b.length (List.drop 0 b)) 48).fst))).fst (f1 (List.take (f0 (List.take b.length (List.drop 0 b)) 48).fst.length (List.drop 0 (f0 (List.take b.length (List.drop 0 b)) 48).fst))).fst) (f1 (List.take (f0 (List.take b.length (List.drop 0 b)) 48).fst.length (List.drop 0 (f0 (List.take b.length (List.drop 0 b)) 48).fst))).fst) (f5 (UInt64.ofNat 4)))).fst, inf := false })))
                      (.leaf (some ((({ x := { l0 := UInt64.ofNat 0, l1 := UInt64.ofNat 0, l2 := UInt64.ofNat 0, l3 := UInt64.ofNat 0, l4 := UInt64.ofNat 0, l5 := UInt64.ofNat 0 }, y := { l0 := UInt64.ofNat 0, l1 := UInt64.ofNat 0, l2 := UInt64.ofNat 0, l3 := UInt64.ofNat 0, l4 := UInt64.ofNat 0, l5 := UInt64.ofNat 0 }, inf := false }, 6), .t))))
                      (.leaf (some (((f6 { x := (f1 (List.take (f0 (List.take b.length (List.drop 0 b)) 48).fst.length (List.drop 0 (f0 (List.take b.length (List.drop 0 b)) 48).fst))).fst, y := (f2 (f3 (f4 (f4 (f1 (List.take (f0 (List.take b.length (List.drop 0 b)) 48).fst.length (List.drop 0 (f0 (List.take b.length (List.drop 0 b)) 48).fst))).fst (f1 (List.take (f0 (List.take b.length (List.drop 0 b)) 48).fst.length (List.drop 0 (f0 (List.take b.length (List.drop 0 b)) 48).fst))).fst) (f1 (List.take (f0 (List.take b.length (List.drop 0 b)) 48).fst.length (List.drop 0 (f0 (List.take b.length (List.drop 0 b)) 48).fst))).fst) (f5 (UInt64.ofNat 4)))).fst, inf := false }, 0), .t))))))
                  (.br (!(f7 (f6 { x := (f1 (List.take (f0 (List.take b.length (List.drop 0 b)) 48).fst.length (List.drop 0 (f0 (List.take b.length (List.drop 0 b)) 48).fst))).fst, y := (f2 (f3 (f4 (f4 (f1 (List.take (f0 (List.take b.length (List.drop 0 b)) 48).fst.length (List.drop 0 (f0 (List.take b.length (List.drop 0 b)) 48).fst))).fst (f1 (List.take (f0 (List.take b.length (List.drop 0 b)) 48).fst.length (List.drop 0 (f0 (List.take b.length (List.drop 0 b)) 48).fst))).fst) (f1 (List.take (f0 (List.take b.length (List.drop 0 b)) 48).fst.length (List.drop 0 (f0 (List.take b.length (List.drop 0 b)) 48).fst))).fst) (f5 (UInt64.ofNat 4)))).fst, inf := false })))
                    (.leaf (some ((({ x := { l0 := UInt64.ofNat 0, l1 := UInt64.ofNat 0, l2 := UInt64.ofNat 0, l3 := UInt64.ofNat 0, l4 := UInt64.ofNat 0, l5 := UInt64.ofNat 0 }, y := { l0 := UInt64.ofNat 0, l1 := UInt64.ofNat 0, l2 := UInt64.ofNat 0, l3 := UInt64.ofNat 0, l4 := UInt64.ofNat 0, l5 := UInt64.ofNat 0 }, inf := false }, 6), .t))))
                    (.leaf (some (((f6 { x := (f1 (List.take (f0 (List.take b.length (List.drop 0 b)) 48).fst.length (List.drop 0 (f0 (List.take b.length (List.drop 0 b)) 48).fst))).fst, y := (f2 (f3 (f4 (f4 (f1 (List.take (f0 (List.take b.length (List.drop 0 b)) 48).fst.length (List.drop 0 (f0 (List.take b.length (List.drop 0 b)) 48).fst))).fst (f1 (List.take (f0 (List.take b.length (List.drop 0 b)) 48).fst.length (List.drop 0 (f0 (List.take b.length (List.drop 0 b)) 48).fst))).fst) (f1 (List.take (f0 (List.take b.length (List.drop 0 b)) 48).fst.length (List.drop 0 (f0 (List.take b.length (List.drop 0 b)) 48).fst))).fst) (f5 (UInt64.ofNat 4)))).fst, inf := false }, 0), .t)))))))
              (.br (!((f2 (f3 (f4 (f4 (f1 (List.take (f0 (List.take b.length (List.drop 0 b)) 48).fst.length (List.drop 0 (f0 (List.take b.length (List.drop 0 b)) 48).fst))).fst (f1 (List.take (f0 (List.take b.length (List.drop 0 b)) 48).fst.length (List.drop 0 (f0 (List.take b.length (List.drop 0 b)) 48).fst))).fst) (f1 (List.take (f0 (List.take b.length (List.drop 0 b)) 48).fst.length (List.drop 0 (f0 (List.take b.length (List.drop 0 b)) 48).fst))).fst) (f5 (UInt64.ofNat 4)))).snd))
                (.leaf (some ((({ x := { l0 := UInt64.ofNat 0, l1 := UInt64.ofNat 0, l2 := UInt64.ofNat 0, l3 := UInt64.ofNat 0, l4 := UInt64.ofNat 0, l5 := UInt64.ofNat 0 }, y := { l0 := UInt64.ofNat 0, l1 := UInt64.ofNat 0, l2 := UInt64.ofNat 0, l3 := UInt64.ofNat 0, l4 := UInt64.ofNat 0, l5 := UInt64.ofNat 0 }, inf := false }, 5), .t))))
                (.br ((f0 (List.take b.length (List.drop 0 b)) 48).snd.snd.fst)
                  (.br (fpEq ((f2 (f3 (f4 (f4 (f1 (List.take (f0 (List.take b.length (List.drop 0 b)) 48).fst.length (List.drop 0 (f0 (List.take b.length (List.drop 0 b)) 48).fst))).fst (f1 (List.take (f0 (List.take b.length (List.drop 0 b)) 48).fst.length (List.drop 0 (f0 (List.take b.length (List.drop 0 b)) 48).fst))).fst) (f1 (List.take (f0 (List.take b.length (List.drop 0 b)) 48).fst.length (List.drop 0 (f0 (List.take b.length (List.drop 0 b)) 48).fst))).fst) (f5 (UInt64.ofNat 4)))).fst) ({ l0 := UInt64.ofNat 0, l1 := UInt64.ofNat 0, l2 := UInt64.ofNat 0, l3 := UInt64.ofNat 0, l4 := UInt64.ofNat 0, l5 := UInt64.ofNat 0 }))
                    (.leaf (some ((({ x := { l0 := UInt64.ofNat 0, l1 := UInt64.ofNat 0, l2 := UInt64.ofNat 0, l3 := UInt64.ofNat 0, l4 := UInt64.ofNat 0, l5 := UInt64.ofNat 0 }, y := { l0 := UInt64.ofNat 0, l1 := UInt64.ofNat 0, l2 := UInt64.ofNat 0, l3 := UInt64.ofNat 0, l4 := UInt64.ofNat 0, l5 := UInt64.ofNat 0 }, inf := false }, 3), .t))))
                    (.br (!(f7 { x := (f1 (List.take (f0 (List.take b.length (List.drop 0 b)) 48).fst.length (List.drop 0 (f0 (List.take b.length (List.drop 0 b)) 48).fst))).fst, y := (f2 (f3 (f4 (f4 (f1 (List.take (f0 (List.take b.length (List.drop 0 b)) 48).fst.length (List.drop 0 (f0 (List.take b.length (List.drop 0 b)) 48).fst))).fst (f1 (List.take (f0 (List.take b.length (List.drop 0 b)) 48).fst.length (List.drop 0 (f0 (List.take b.length (List.drop 0 b)) 48).fst))).fst) (f1 (List.take (f0 (List.take b.length (List.drop 0 b)) 48).fst.length (List.drop 0 (f0 (List.take b.length (List.drop 0 b)) 48).fst))).fst) (f5 (UInt64.ofNat 4)))).fst, inf := false }))
                      (.leaf (some ((({ x := { l0 := UInt64.ofNat 0, l1 := UInt64.ofNat 0, l2 := UInt64.ofNat 0, l3 := UInt64.ofNat 0, l4 := UInt64.ofNat 0, l5 := UInt64.ofNat 0 }, y := { l0 := UInt64.ofNat 0, l1 := UInt64.ofNat 0, l2 := UInt64.ofNat 0, l3 := UInt64.ofNat 0, l4 := UInt64.ofNat 0, l5 := UInt64.ofNat 0 }, inf := false }, 6), .t))))
                      (.leaf (some ((({ x := (f1 (List.take (f0 (List.take b.length (List.drop 0 b)) 48).fst.length (List.drop 0 (f0 (List.take b.length (List.drop 0 b)) 48).fst))).fst, y := (f2 (f3 (f4 (f4 (f1 (List.take (f0 (List.take b.length (List.drop 0 b)) 48).fst.length (List.drop 0 (f0 (List.take b.length (List.drop 0 b)) 48).fst))).fst (f1 (List.take (f0 (List.take b.length (List.drop 0 b)) 48).fst.length (List.drop 0 (f0 (List.take b.length (List.drop 0 b)) 48).fst))).fst) (f1 (List.take (f0 (List.take b.length (List.drop 0 b)) 48).fst.length (List.drop 0 (f0 (List.take b.length (List.drop 0 b)) 48).fst))).fst) (f5 (UInt64.ofNat 4)))).fst, inf := false }, 0), .t))))))
                  (.br (!(f7 { x := (f1 (List.take (f0 (List.take b.length (List.drop 0 b)) 48).fst.length (List.drop 0 (f0 (List.take b.length (List.drop 0 b)) 48).fst))).fst, y := (f2 (f3 (f4 (f4 (f1 (List.take (f0 (List.take b.length (List.drop 0 b)) 48).fst.length (List.drop 0 (f0 (List.take b.length (List.drop 0 b)) 48).fst))).fst (f1 (List.take (f0 (List.take b.length (List.drop 0 b)) 48).fst.length (List.drop 0 (f0 (List.take b.length (List.drop 0 b)) 48).fst))).fst) (f1 (List.take (f0 (List.take b.length (List.drop 0 b)) 48).fst.length (List.drop 0 (f0 (List.take b.length (List.drop 0 b)) 48).fst))).fst) (f5 (UInt64.ofNat 4)))).fst, inf := false }))
                    (.leaf (some ((({ x := { l0 := UInt64.ofNat 0, l1 := UInt64.ofNat 0, l2 := UInt64.ofNat 0, l3 := UInt64.ofNat 0, l4 := UInt64.ofNat 0, l5 := UInt64.ofNat 0 }, y := { l0 := UInt64.ofNat 0, l1 := UInt64.ofNat 0, l2 := UInt64.ofNat 0, l3 := UInt64.ofNat 0, l4 := UInt64.ofNat 0, l5 := UInt64.ofNat 0 }, inf := false }, 6), .t))))
                    (.leaf (some ((({ x := (f1 (List.take (f0 (List.take b.length (List.drop 0 b)) 48).fst.length (List.drop 0 (f0 (List.take b.length (List.drop 0 b)) 48).fst))).fst, y := (f2 (f3 (f4 (f4 (f1 (List.take (f0 (List.take b.length (List.drop 0 b)) 48).fst.length (List.drop 0 (f0 (List.take b.length (List.drop 0 b)) 48).fst))).fst (f1 (List.take (f0 (List.take b.length (List.drop 0 b)) 48).fst.length (List.drop 0 (f0 (List.take b.length (List.drop 0 b)) 48).fst))).fst) (f1 (List.take (f0 (List.take b.length (List.drop 0 b)) 48).fst.length (List.drop 0 (f0 (List.take b.length (List.drop 0 b)) 48).fst))).fst) (f5 (UInt64.ofNat 4)))).fst, inf := false }, 0), .t)))))))))))))
theorem take1F_run (f0 : List UInt8 → Int → List UInt8 × Bool × Bool × Int) (f1 : List UInt8 → Fp × Int) (f2 : Fp → Fp × Bool) (f3 : Fp → Fp → Fp) (f4 : Fp → Fp → Fp) (f5 : UInt64 → Fp) (f6 : Pg1 → Pg1) (f7 : Pg1 → Bool) (b : List UInt8) : endT (Ens [(90, K2 aBs aN oB4.res f0), (91, Kftake f1), (92, Ksqrt f2), (93, Kff f3), (94, Kff f4), (95, Kof f5), (96, K1 (kRow Pg1).arg (kRow Pg1).rs.res f6), (97, K1 (kRow Pg1).arg kBool.rs.res f7)] [90]) ((kRow Pg1).rs2 kInt).out 300 Tryz.f44 (flat (codeOf Tryz.f44)) (startSt Tryz.f44 [iBs.av 0 b] [inHE eU8 b]) = take1F_T f0 f1 f2 f3 f4 f5 f6 f7 b := by kernel_rfl
def take1F (b : List UInt8) : Pg1 × Int := (take1F_T bareF ftakeF sqrtF addF mulF ofF negG1 inG1 b).outD (pg10, 0)
theorem take1F_ok' (h : ∀ (b : List UInt8), iBs.fact b → (take1F_T bareF ftakeF sqrtF addF mulF ofF negG1 inG1 b).full = true ∧ (take1F_T bareF ftakeF sqrtF addF mulF ofF negG1 inG1 b).okAll) : CallOk Tryz.prog 44 (K1 aBs ((kRow Pg1).rs2 kInt).out.res take1F) :=
  Go.Proofs.YtbbnabednkopdaaGreat.G1 (E := Ens [(90, K2 aBs aN oB4.res bareF), (91, Kftake ftakeF), (92, Ksqrt sqrtF), (93, Kff addF), (94, Kff mulF), (95, Kof ofF), (96, K1 (kRow Pg1).arg (kRow Pg1).rs.res negG1), (97, K1 (kRow Pg1).arg kBool.rs.res inG1)] [90]) Tryz.func44 (c := codeOf Tryz.f44) (by kernel_rfl) (bodied Tryz.func44 (by kernel_rfl) (by kernel_rfl)) iBs ((kRow Pg1).rs2 kInt).out take1F fun b hb => DoesL.outs (Ens_ok (.cons bare_ok (.cons ftake_ok (.cons sqrt_ok (.cons add_ok (.cons mul_ok (.cons of_ok (.cons negG1_ok (.cons inG1_ok .nil))))))))) 300 (pg10, 0) (take1F_run bareF ftakeF sqrtF addF mulF ofF negG1 inG1 b) (h b hb).1 (h b hb).2
def take2F_T (f0 : List UInt8 → Int → List UInt8 × Bool × Bool × Int) (f1 : List UInt8 → Fp × Int) (f2 : Fp2 → Fp2 × Bool) (f3 : Fp2 → Fp2 → Fp2) (f4 : Fp2 → Fp2 → Fp2) (f5 : Pg2 → Pg2) (f6 : Pg2 → Bool) (b : List UInt8) : Tree (Option ((Pg2 × Int) × Pr)) :=
  (.vc (((0 + b.length ≤ b.length ∧ b.length < 1125899906842624 ∧ 0 = 0 ∧ 1 = 1) ∧ littleB (List.take b.length (List.drop 0 b))) ∧ sizeB 96)
    (.br ((f0 (List.take b.length (List.drop 0 b)) 96).snd.snd.snd != 0)
      (.leaf (some ((({ x := { c0 := { l0 := UInt64.ofNat 0, l1 := UInt64.ofNat 0, l2 := UInt64.ofNat 0, l3 := UInt64.ofNat 0, l4 := UInt64.ofNat 0, l5 := UInt64.ofNat 0 }, c1 := { l0 := UInt64.ofNat 0, l1 := UInt64.ofNat 0, l2 := UInt64.ofNat 0, l3 := UInt64.ofNat 0, l4 := UInt64.ofNat 0, l5 := UInt64.ofNat 0 } }, y := { c0 := { l0 := UInt64.ofNat 0, l1 := UInt64.ofNat 0, l2 := UInt64.ofNat 0, l3 := UInt64.ofNat 0, l4 := UInt64.ofNat 0, l5 := UInt64.ofNat 0 }, c1 := { l0 := UInt64.ofNat 0, l1 := UInt64.ofNat 0, l2 := UInt64.ofNat 0, l3 := UInt64.ofNat 0, l4 := UInt64.ofNat 0, l5 := UInt64.ofNat 0 } }, inf := false }, (f0 (List.take b.length (List.drop 0 b)) 96).snd.snd.snd), .t))))
      (.br ((f0 (List.take b.length (List.drop 0 b)) 96).snd.fst)
        (.leaf (some ((({ x := { c0 := { l0 := UInt64.ofNat 0, l1 := UInt64.ofNat 0, l2 := UInt64.ofNat 0, l3 := UInt64.ofNat 0, l4 := UInt64.ofNat 0, l5 := UInt64.ofNat 0 }, c1 := { l0 := UInt64.ofNat 0, l1 := UInt64.ofNat 0, l2 := UInt64.ofNat 0, l3 := UInt64.ofNat 0, l4 := UInt64.ofNat 0, l5 := UInt64.ofNat 0 } }, y := { c0 := { l0 := UInt64.ofNat 0, l1 := UInt64.ofNat 0, l2 := UInt64.ofNat 0, l3 := UInt64.ofNat 0, l4 := UInt64.ofNat 0, l5 := UInt64.ofNat 0 }, c1 := { l0 := UInt64.ofNat 0, l1 := UInt64.ofNat 0, l2 := UInt64.ofNat 0, l3 := UInt64.ofNat 0, l4 := UInt64.ofNat 0, l5 := UInt64.ofNat 0 } }, inf := true }, 0), .t))))
        (.vc (0 ≤ 48 ∧ 48 ≤ (f0 (List.take b.length (List.drop 0 b)) 96).fst.length ∧ 0 + (f0 (List.take b.length (List.drop 0 b)) 96).fst.length * 1 ≤ (List.map EK.u8.cell (f0 (List.take b.length (List.drop 0 b)) 96).fst).length ∧ 0 < 1 ∧ (0 = 0 ∨ 0 < 48) ∧ 0 = 0 ∧ 1 = 1)
          (.vc ((48 ≤ (f0 (List.take b.length (List.drop 0 b)) 96).fst.length ∧ 48 < 1125899906842624 ∧ 0 = 0 ∧ 1 = 1) ∧ littleB (List.take 48 (List.drop 0 (f0 (List.take b.length (List.drop 0 b)) 96).fst)))
            (.br ((f1 (List.take 48 (List.drop 0 (f0 (List.take b.length (List.drop 0 b)) 96).fst))).snd != 0)
              (.leaf (some ((({ x := { c0 := { l0 := UInt64.ofNat 0, l1 := UInt64.ofNat 0, l2 := UInt64.ofNat 0, l3 := UInt64.ofNat 0, l4 := UInt64.ofNat 0, l5 := UInt64.ofNat 0 }, c1 := { l0 := UInt64.ofNat 0, l1 := UInt64.ofNat 0, l2 := UInt64.ofNat 0, l3 := UInt64.ofNat 0, l4 := UInt64.ofNat 0, l5 := UInt64.ofNat 0 } }, y := { c0 := { l0 := UInt64.ofNat 0, l1 := UInt64.ofNat 0, l2 := UInt64.ofNat 0, l3 := UInt64.ofNat 0, l4 := UInt64.ofNat 0, l5 := UInt64.ofNat 0 }, c1 := { l0 := UInt64.ofNat 0, l1 := UInt64.ofNat 0, l2 := UInt64.ofNat 0, l3 := UInt64.ofNat 0, l4 := UInt64.ofNat 0, l5 := UInt64.ofNat 0 } }, inf := false }, (f1 (List.take 48 (List.drop 0 (f0 (List.take b.length (List.drop 0 b)) 96).fst))).snd), .t))))
              (.vc (48 ≤ (f0 (List.take b.length (List.drop 0 b)) 96).fst.length ∧ (f0 (List.take b.length (List.drop 0 b)) 96).fst.length ≤ (f0 (List.take b.length (List.drop 0 b)) 96).fst.length ∧ 0 + (f0 (List.take b.length (List.drop 0 b)) 96).fst.length * 1 ≤ (List.map EK.u8.cell (f0 (List.take b.length (List.drop 0 b)) 96).fst).length ∧ 0 < 1 ∧ (48 = 0 ∨ 48 < (f0 (List.take b.length (List.drop 0 b)) 96).fst.length) ∧ 0 = 0 ∧ 1 = 1)
                (.vc ((48 + ((f0 (List.take b.length (List.drop 0 b)) 96).fst.length - 48) ≤ (f0 (List.take b.length (List.drop 0 b)) 96).fst.length ∧ (f0 (List.take b.length (List.drop 0 b)) 96).fst.length - 48 < 1125899906842624 ∧ 48 = 48 ∧ 1 = 1) ∧ littleB (List.take ((f0 (List.take b.length (List.drop 0 b)) 96).fst.length - 48) (List.drop 48 (f0 (List.take b.length (List.drop 0 b)) 96).fst)))
                  (.br ((f1 (List.take ((f0 (List.take b.length (List.drop 0 b)) 96).fst.length - 48) (List.drop 48 (f0 (List.take b.length (List.drop 0 b)) 96).fst))).snd != 0)
                    (.leaf (some ((({ x := { c0 := { l0 := UInt64.ofNat 0, l1 := UInt64.ofNat 0, l2 := UInt64.ofNat 0, l3 := UInt64.ofNat 0, l4 := UInt64.ofNat 0, l5 := UInt64.ofNat 0 }, c1 := { l0 := UInt64.ofNat 0, l1 := UInt64.ofNat 0, l2 := UInt64.ofNat 0, l3 := UInt64.ofNat 0, l4 := UInt64.ofNat 0, l5 := UInt64.ofNat 0 } }, y := { c0 := { l0 := UInt64.ofNat 0, l1 := UInt64.ofNat 0, l2 := UInt64.ofNat 0, l3 := UInt64.ofNat 0, l4 := UInt64.ofNat 0, l5 := UInt64.ofNat 0 }, c1 := { l0 := UInt64.ofNat 0, l1 := UInt64.ofNat 0, l2 := UInt64.ofNat 0, l3 := UInt64.ofNat 0, l4 := UInt64.ofNat 0, l5 := UInt64.ofNat 0 } }, inf := false }, (f1 (List.take ((f0 (List.take b.length (List.drop 0 b)) 96).fst.length - 48) (List.drop 48 (f0 (List.take b.length (List.drop 0 b)) 96).fst))).snd), .t))))
                    (.br ((f0 (List.take b.length (List.drop 0 b)) 96).snd.snd.fst)
                      (.br (!((f2 (f3 (f4 (f4 { c0 := (f1 (List.take ((f0 (List.take b.length (List.drop 0 b)) 96).fst.length - 48) (List.drop 48 (f0 (List.take b.length (List.drop 0 b)) 96).fst))).fst, c1 := (f1 (List.take 48 (List.drop 0 (f0 (List.take b.length (List.drop 0 b)) 96).fst))).fst } { c0 := (f1 (List.take ((f0 (List.take b.length (List.drop 0 b)) 96).fst.length - 48) (List.drop 48 (f0 (List.take b.length (List.drop 0 b)) 96).fst))).fst, c1 := (f1 (List.take 48 (List.drop 0 (f0 (List.take b.length (List.drop 0 b)) 96).fst))).fst }) { c0 := (f1 (List.take ((f0 (List.take b.length (List.drop 0 b)) 96).fst.length - 48) (List.drop 48 (f0 (List.take b.length (List.drop 0 b)) 96).fst))).fst, c1 := (f1 (List.take 48 (List.drop 0 (f0 (List.take b.length (List.drop 0 b)) 96).fst))).fst }) { c0 := { l0 := UInt64.ofNat 4, l1 := UInt64.ofNat 0, l2 := UInt64.ofNat 0, l3 := UInt64.ofNat 0, l4 := UInt64.ofNat 0, l5 := UInt64.ofNat 0 }, c1 := { l0 := UInt64.ofNat 4, l1 := UInt64.ofNat 0, l2 := UInt64.ofNat 0, l3 := UInt64.ofNat 0, l4 := UInt64.ofNat 0, l5 := UInt64.ofNat 0 } })).snd))
                        (.leaf (some ((({ x := { c0 := { l0 := UInt64.ofNat 0, l1 := UInt64.ofNat 0, l2 := UInt64.ofNat 0, l3 := UInt64.ofNat 0, l4 := UInt64.ofNat 0, l5 := UInt64.ofNat 0 }, c1 := { l0 := UInt64.ofNat 0, l1 := UInt64.ofNat 0, l2 := UInt64.ofNat 0, l3 := UInt64.ofNat 0, l4 := UInt64.ofNat 0, l5 := UInt64.ofNat 0 } }, y := { c0 := { l0 := UInt64.ofNat 0, l1 := UInt64.ofNat 0, l2 := UInt64.ofNat 0, l3 := UInt64.ofNat 0, l4 := UInt64.ofNat 0, l5 := UInt64.ofNat 0 }, c1 := { l0 := UInt64.ofNat 0, l1 := UInt64.ofNat 0, l2 := UInt64.ofNat 0, l3 := UInt64.ofNat 0, l4 := UInt64.ofNat 0, l5 := UInt64.ofNat 0 } }, inf := false }, 5), .t))))
                        (.br ((f0 (List.take b.length (List.drop 0 b)) 96).snd.snd.fst)
                          (.br (fp2Eq ((f2 (f3 (f4 (f4 { c0 := (f1 (List.take ((f0 (List.take b.length (List.drop 0 b)) 96).fst.length - 48) (List.drop 48 (f0 (List.take b.length (List.drop 0 b)) 96).fst))).fst, c1 := (f1 (List.take 48 (List.drop 0 (f0 (List.take b.length (List.drop 0 b)) 96).fst))).fst } { c0 := (f1 (List.take ((f0 (List.take b.length (List.drop 0 b)) 96).fst.length - 48) (List.drop 48 (f0 (List.take b.length (List.drop 0 b)) 96).fst))).fst, c1 := (f1 (List.take 48 (List.drop 0 (f0 (List.take b.length (List.drop 0 b)) 96).fst))).fst }) { c0 := (f1 (List.take ((f0 (List.take b.length (List.drop 0 b)) 96).fst.length - 48) (List.drop 48 (f0 (List.take b.length (List.drop 0 b)) 96).fst))).fst, c1 := (f1 (List.take 48 (List.drop 0 (f0 (List.take b.length (List.drop 0 b)) 96).fst))).fst }) { c0 := { l0 := UInt64.ofNat 4, l1 := UInt64.ofNat 0, l2 := UInt64.ofNat 0, l3 := UInt64.ofNat 0, l4 := UInt64.ofNat 0, l5 := UInt64.ofNat 0 }, c1 := { l0 := UInt64.ofNat 4, l1 := UInt64.ofNat 0, l2 := UInt64.ofNat 0, l3 := UInt64.ofNat 0, l4 := UInt64.ofNat 0, l5 := UInt64.ofNat 0 } })).fst) ({ c0 := { l0 := UInt64.ofNat 0, l1 := UInt64.ofNat 0, l2 := UInt64.ofNat 0, l3 := UInt64.ofNat 0, l4 := UInt64.ofNat 0, l5 := UInt64.ofNat 0 }, c1 := { l0 := UInt64.ofNat 0, l1 := UInt64.ofNat 0, l2 := UInt64.ofNat 0, l3 := UInt64.ofNat 0, l4 := UInt64.ofNat 0, l5 := UInt64.ofNat 0 } }))
                            (.leaf (some ((({ x := { c0 := { l0 := UInt64.ofNat 0, l1 := UInt64.ofNat 0, l2 := UInt64.ofNat 0, l3 := UInt64.ofNat 0, l4 := UInt64.ofNat 0, l5 := UInt64.ofNat 0 }, c1 := { l0 := UInt64.ofNat 0, l1 := UInt64.ofNat 0, l2 := UInt64.ofNat 0, l3 := UInt64.ofNat 0, l4 := UInt64.ofNat 0, l5 := UInt64.ofNat 0 } }, y := { c0 := { l0 := UInt64.ofNat 0, l1 := UInt64.ofNat 0, l2 := UInt64.ofNat 0, l3 := UInt64.ofNat 0, l4 := UInt64.ofNat 0, l5 := UInt64.ofNat 0 }, c1 := { l0 := UInt64.ofNat 0, l1 := UInt64.ofNat 0, l2 := UInt64.ofNat 0, l3 := UInt64.ofNat 0, l4 := UInt64.ofNat 0, l5 := UInt64.ofNat 0 } }, inf := false }, 3), .t))))
                            (.br (!(f6 (f5 { x := { c0 := (f1 (List.take ((f0 (List.take b.length (List.drop 0 b)) 96).fst.length - 48) (List.drop 48 (f0 (List.take b.length (List.drop 0 b)) 96).fst))).fst, c1 := (f1 (List.take 48 (List.drop 0 (f0 (List.take b.length (List.drop 0 b)) 96).fst))).fst }, y := (f2 (f3 (f4 (f4 { c0 := (f1 (List.take ((f0 (List.take b.length (List.drop 0 b)) 96).fst.length - 48) (List.drop 48 (f0 (List.take b.length (List.drop 0 b)) 96).fst))).fst, c1 := (f1 (List.take 48 (List.drop 0 (f0 (List.take b.length (List.drop 0 b)) 96).fst))).fst } { c0 := (f1 (List.take ((f0 (List.take b.length (List.drop 0 b)) 96).fst.length - 48) (List.drop 48 (f0 (List.take b.length (List.drop 0 b)) 96).fst))).fst, c1 := (f1 (List.take 48 (List.drop 0 (f0 (List.take b.length (List.drop 0 b)) 96).fst))).fst }) { c0 := (f1 (List.take ((f0 (List.take b.length (List.drop 0 b)) 96).fst.length - 48) (List.drop 48 (f0 (List.take b.length (List.drop 0 b)) 96).fst))).fst, c1 := (f1 (List.take 48 (List.drop 0 (f0 (List.take b.length (List.drop 0 b)) 96).fst))).fst }) { c0 := { l0 := UInt64.ofNat 4, l1 := UInt64.ofNat 0, l2 := UInt64.ofNat 0, l3 := UInt64.ofNat 0, l4 := UInt64.ofNat 0, l5 := UInt64.ofNat 0 }, c1 := { l0 := UInt64.ofNat 4, l1 := UInt64.ofNat 0, l2 := UInt64.ofNat 0, l3 := UInt64.ofNat 0, l4 := UInt64.ofNat 0, l5 := UInt64.ofNat 0 } })).fst, inf := false })))
                              (.leaf (some ((({ x := { c0 := { l0 := UInt64.ofNat 0, l1 := UInt64.ofNat 0, l2 := UInt64.ofNat 0, l3 := UInt64.ofNat 0, l4 := UInt64.ofNat 0, l5 := UInt64.ofNat 0 }, c1 := { l0 := UInt64.ofNat 0, l1 := UInt64.ofNat 0, l2 := UInt64.ofNat 0, l3 := UInt64.ofNat 0, l4 := UInt64.ofNat 0, l5 := UInt64.ofNat 0 } }, y := { c0 := { l0 := UInt64.ofNat 0, l1 := UInt64.ofNat 0, l2 := UInt64.ofNat 0, l3 := UInt64.ofNat 0, l4 := UInt64.ofNat 0, l5 := UInt64.ofNat 0 }, c1 := { l0 := UInt64.ofNat 0, l1 := UInt64.ofNat 0, l2 := UInt64.ofNat 0, l3 := UInt64.ofNat 0, l4 := UInt64.ofNat 0, l5 := UInt64.ofNat 0 } }, inf := false }, 6), .t))))
                              (.leaf (some (((f5 { x := { c0 := (f1 (List.take ((f0 (List.take b.length (List.drop 0 b)) 96).fst.length - 48) (List.drop 48 (f0 (List.take b.length (List.drop 0 b)) 96).fst))).fst, c1 := (f1 (List.take 48 (List.drop 0 (f0 (List.take b.length (List.drop 0 b)) 96).fst))).fst }, y := (f2 (f3 (f4 (f4 { c0 := (f1 (List.take ((f0 (List.take b.length (List.drop 0 b)) 96).fst.length - 48) (List.drop 48 (f0 (List.take b.length (List.drop 0 b)) 96).fst))).fst, c1 := (f1 (List.take 48 (List.drop 0 (f0 (List.take b.length (List.drop 0 b)) 96).fst))).fst } { c0 := (f1 (List.take ((f0 (List.take b.length (List.drop 0 b)) 96).fst.length - 48) (List.drop 48 (f0 (List.take b.length (List.drop 0 b)) 96).fst))).fst, c1 := (f1 (List.take 48 (List.drop 0 (f0 (List.take b.length (List.drop 0 b)) 96).fst))).fst }) { c0 := (f1 (List.take ((f0 (List.take b.length (List.drop 0 b)) 96).fst.length - 48) (List.drop 48 (f0 (List.take b.length (List.drop 0 b)) 96).fst))).fst, c1 := (f1 (List.take 48 (List.drop 0 (f0 (List.take b.length (List.drop 0 b)) 96).fst))).fst }) { c0 := { l0 := UInt64.ofNat 4, l1 := UInt64.ofNat 0, l2 := UInt64.ofNat 0, l3 := UInt64.ofNat 0, l4 := UInt64.ofNat 0, l5 := UInt64.ofNat 0 }, c1 := { l0 := UInt64.ofNat 4, l1 := UInt64.ofNat 0, l2 := UInt64.ofNat 0, l3 := UInt64.ofNat 0, l4 := UInt64.ofNat 0, l5 := UInt64.ofNat 0 } })).fst, inf := false }, 0), .t))))))
                          (.br (!(f6 (f5 { x := { c0 := (f1 (List.take ((f0 (List.take b.length (List.drop 0 b)) 96).fst.length - 48) (List.drop 48 (f0 (List.take b.length (List.drop 0 b)) 96).fst))).fst, c1 := (f1 (List.take 48 (List.drop 0 (f0 (List.take b.length (List.drop 0 b)) 96).fst))).fst }, y := (f2 (f3 (f4 (f4 { c0 := (f1 (List.take ((f0 (List.take b.length (List.drop 0 b)) 96).fst.length - 48) (List.drop 48 (f0 (List.take b.length (List.drop 0 b)) 96).fst))).fst, c1 := (f1 (List.take 48 (List.drop 0 (f0 (List.take b.length (List.drop 0 b)) 96).fst))).fst } { c0 := (f1 (List.take ((f0 (List.take b.length (List.drop 0 b)) 96).fst.length - 48) (List.drop 48 (f0 (List.take b.length (List.drop 0 b)) 96).fst))).fst, c1 := (f1 (List.take 48 (List.drop 0 (f0 (List.take b.length (List.drop 0 b)) 96).fst))).fst }) { c0 := (f1 (List.take ((f0 (List.take b.length (List.drop 0 b)) 96).fst.length - 48) (List.drop 48 (f0 (List.take b.length (List.drop 0 b)) 96).fst))).fst, c1 := (f1 (List.take 48 (List.drop 0 (f0 (List.take b.length (List.drop 0 b)) 96).fst))).fst }) { c0 := { l0 := UInt64.ofNat 4, l1 := UInt64.ofNat 0, l2 := UInt64.ofNat 0, l3 := UInt64.ofNat 0, l4 := UInt64.ofNat 0, l5 := UInt64.ofNat 0 }, c1 := { l0 := UInt64.ofNat 4, l1 := UInt64.ofNat 0, l2 := UInt64.ofNat 0, l3 := UInt64.ofNat 0, l4 := UInt64.ofNat 0, l5 := UInt64.ofNat 0 } })).fst, inf := false })))
                            (.leaf (some ((({ x := { c0 := { l0 := UInt64.ofNat 0, l1 := UInt64.ofNat 0, l2 := UInt64.ofNat 0, l3 := UInt64.ofNat 0, l4 := UInt64.ofNat 0, l5 := UInt64.ofNat 0 }, c1 := { l0 := UInt64.ofNat 0, l1 := UInt64.ofNat 0, l2 := UInt64.ofNat 0, l3 := UInt64.ofNat 0, l4 := UInt64.ofNat 0, l5 := UInt64.ofNat 0 } }, y := { c0 := { l0 := UInt64.ofNat 0, l1 := UInt64.ofNat 0, l2 := UInt64.ofNat 0, l3 := UInt64.ofNat 0, l4 := UInt64.ofNat 0, l5 := UInt64.ofNat 0 }, c1 := { l0 := UInt64.ofNat 0, l1 := UInt64.ofNat 0, l2 := UInt64.ofNat 0, l3 := UInt64.ofNat 0, l4 := UInt64.ofNat 0, l5 := UInt64.ofNat 0 } }, inf := false }, 6), .t))))
                            (.leaf (some (((f5 { x := { c0 := (f1 (List.take ((f0 (List.take b.length (List.drop 0 b)) 96).fst.length - 48) (List.drop 48 (f0 (List.take b.length (List.drop 0 b)) 96).fst))).fst, c1 := (f1 (List.take 48 (List.drop 0 (f0 (List.take b.length (List.drop 0 b)) 96).fst))).fst }, y := (f2 (f3 (f4 (f4 { c0 := (f1 (List.take ((f0 (List.take b.length (List.drop 0 b)) 96).fst.length - 48) (List.drop 48 (f0 (List.take b.length (List.drop 0 b)) 96).fst))).fst, c1 := (f1 (List.take 48 (List.drop 0 (f0 (List.take b.length (List.drop 0 b)) 96).fst))).fst } { c0 := (f1 (List.take ((f0 (List.take b.length (List.drop 0 b)) 96).fst.length - 48) (List.drop 48 (f0 (List.take b.length (List.drop 0 b)) 96).fst))).fst, c1 := (f1 (List.take 48 (List.drop 0 (f0 (List.take b.length (List.drop 0 b)) 96).fst))).fst }) { c0 := (f1 (List.take ((f0 (List.take b.length (List.drop 0 b)) 96).fst.length - 48) (List.drop 48 (f0 (List.take b.length (List.drop 0 b)) 96).fst))).fst, c1 := (f1 (List.take 48 (List.drop 0 (f0 (List.take b.length (List.drop 0 b)) 96).fst))).fst }) { c0 := { l0 := UInt64.ofNat 4, l1 := UInt64.ofNat 0, l2 := UInt64.ofNat 0, l3 := UInt64.ofNat 0, l4 := UInt64.ofNat 0, l5 := UInt64.ofNat 0 }, c1 := { l0 := UInt64.ofNat 4, l1 := UInt64.ofNat 0, l2 := UInt64.ofNat 0, l3 := UInt64.ofNat 0, l4 := UInt64.ofNat 0, l5 := UInt64.ofNat 0 } })).fst, inf := false }, 0), .t)))))))
                      (.br (!((f2 (f3 (f4 (f4 { c0 := (f1 (List.take ((f0 (List.take b.length (List.drop 0 b)) 96).fst.length - 48) (List.drop 48 (f0 (List.take b.length (List.drop 0 b)) 96).fst))).fst, c1 := (f1 (List.take 48 (List.drop 0 (f0 (List.take b.length (List.drop 0 b)) 96).fst))).fst } { c0 := (f1 (List.take ((f0 (List.take b.length (List.drop 0 b)) 96).fst.length - 48) (List.drop 48 (f0 (List.take b.length (List.drop 0 b)) 96).fst))).fst, c1 := (f1 (List.take 48 (List.drop 0 (f0 (List.take b.length (List.drop 0 b)) 96).fst))).fst }) { c0 := (f1 (List.take ((f0 (List.take b.length (List.drop 0 b)) 96).fst.length - 48) (List.drop 48 (f0 (List.take b.length (List.drop 0 b)) 96).fst))).fst, c1 := (f1 (List.take 48 (List.drop 0 (f0 (List.take b.length (List.drop 0 b)) 96).fst))).fst }) { c0 := { l0 := UInt64.ofNat 4, l1 := UInt64.ofNat 0, l2 := UInt64.ofNat 0, l3 := UInt64.ofNat 0, l4 := UInt64.ofNat 0, l5 := UInt64.ofNat 0 }, c1 := { l0 := UInt64.ofNat 4, l1 := UInt64.ofNat 0, l2 := UInt64.ofNat 0, l3 := UInt64.ofNat 0, l4 := UInt64.ofNat 0, l5 := UInt64.ofNat 0 } })).snd))
                        (.leaf (some ((({ x := { c0 := { l0 := UInt64.ofNat 0, l1 := UInt64.ofNat 0, l2 := UInt64.ofNat 0, l3 := UInt64.ofNat 0, l4 := UInt64.ofNat 0, l5 := UInt64.ofNat 0 }, c1 := { l0 := UInt64.ofNat 0, l1 := UInt64.ofNat 0, l2 := UInt64.ofNat 0, l3 := UInt64.ofNat 0, l4 := UInt64.ofNat 0, l5 := UInt64.ofNat 0 } }, y := { c0 := { l0 := UInt64.ofNat 0, l1 := UInt64.ofNat 0, l2 := UInt64.ofNat 0, l3 := UInt64.ofNat 0, l4 := UInt64.ofNat 0, l5 := UInt64.ofNat 0 }, c1 := { l0 := UInt64.ofNat 0, l1 := UInt64.ofNat 0, l2 := UInt64.ofNat 0, l3 := UInt64.ofNat 0, l4 := UInt64.ofNat 0, l5 := UInt64.ofNat 0 } }, inf := false }, 5), .t))))
                        (.br ((f0 (List.take b.length (List.drop 0 b)) 96).snd.snd.fst)
                          (.br (fp2Eq ((f2 (f3 (f4 (f4 { c0 := (f1 (List.take ((f0 (List.take b.length (List.drop 0 b)) 96).fst.length - 48) (List.drop 48 (f0 (List.take b.length (List.drop 0 b)) 96).fst))).fst, c1 := (f1 (List.take 48 (List.drop 0 (f0 (List.take b.length (List.drop 0 b)) 96).fst))).fst } { c0 := (f1 (List.take ((f0 (List.take b.length (List.drop 0 b)) 96).fst.length - 48) (List.drop 48 (f0 (List.take b.length (List.drop 0 b)) 96).fst))).fst, c1 := (f1 (List.take 48 (List.drop 0 (f0 (List.take b.length (List.drop 0 b)) 96).fst))).fst }) { c0 := (f1 (List.take ((f0 (List.take b.length (List.drop 0 b)) 96).fst.length - 48) (List.drop 48 (f0 (List.take b.length (List.drop 0 b)) 96).fst))).fst, c1 := (f1 (List.take 48 (List.drop 0 (f0 (List.take b.length (List.drop 0 b)) 96).fst))).fst }) { c0 := { l0 := UInt64.ofNat 4, l1 := UInt64.ofNat 0, l2 := UInt64.ofNat 0, l3 := UInt64.ofNat 0, l4 := UInt64.ofNat 0, l5 := UInt64.ofNat 0 }, c1 := { l0 := UInt64.ofNat 4, l1 := UInt64.ofNat 0, l2 := UInt64.ofNat 0, l3 := UInt64.ofNat 0, l4 := UInt64.ofNat 0, l5 := UInt64.ofNat 0 } })).fst) ({ c0 := { l0 := UInt64.ofNat 0, l1 := UInt64.ofNat 0, l2 := UInt64.ofNat 0, l3 := UInt64.ofNat 0, l4 := UInt64.ofNat 0, l5 := UInt64.ofNat 0 }, c1 := { l0 := UInt64.ofNat 0, l1 := UInt64.ofNat 0, l2 := UInt64.ofNat 0, l3 := UInt64.ofNat 0, l4 := UInt64.ofNat 0, l5 := UInt64.ofNat 0 } }))
                            (.leaf (some ((({ x := { c0 := { l0 := UInt64.ofNat 0, l1 := UInt64.ofNat 0, l2 := UInt64.ofNat 0, l3 := UInt64.ofNat 0, l4 := UInt64.ofNat 0, l5 := UInt64.ofNat 0 }, c1 := { l0 := UInt64.ofNat 0, l1 := UInt64.ofNat 0, l2 := UInt64.ofNat 0, l3 := UInt64.ofNat 0, l4 := UInt64.ofNat 0, l5 := UInt64.ofNat 0 } }, y := { c0 := { l0 := UInt64.ofNat 0, l1 := UInt64.ofNat 0, l2 := UInt64.ofNat 0, l3 := UInt64.ofNat 0, l4 := UInt64.ofNat 0, l5 := UInt64.ofNat 0 }, c1 := { l0 := UInt64.ofNat 0, l1 := UInt64.ofNat 0, l2 := UInt64.ofNat 0, l3 := UInt64.ofNat 0, l4 := UInt64.ofNat 0, l5 := UInt64.ofNat 0 } }, inf := false }, 3), .t))))
                            (.br (!(f6 { x := { c0 := (f1 (List.take ((f0 (List.take b.length (List.drop 0 b)) 96).fst.length - 48) (List.drop 48 (f0 (List.take b.length (List.drop 0 b)) 96).fst))).fst, c1 := (f1 (List.take 48 (List.drop 0 (f0 (List.take b.length (List.drop 0 b)) 96).fst))).fst }, y := (f2 (f3 (f4 (f4 { c0 := (f1 (List.take ((f0 (List.take b.length (List.drop 0 b)) 96).fst.length - 48) (List.drop 48 (f0 (List.take b.length (List.drop 0 b)) 96).fst))).fst, c1 := (f1 (List.take 48 (List.drop 0 (f0 (List.take b.length (List.drop 0 b)) 96).fst))).fst } { c0 := (f1 (List.take ((f0 (List.take b.length (List.drop 0 b)) 96).fst.length - 48) (List.drop 48 (f0 (List.take b.length (List.drop 0 b)) 96).fst))).fst, c1 := (f1 (List.take 48 (List.drop 0 (f0 (List.take b.length (List.drop 0 b)) 96).fst))).fst }) { c0 := (f1 (List.take ((f0 (List.take b.length (List.drop 0 b)) 96).fst.length - 48) (List.drop 48 (f0 (List.take b.length (List.drop 0 b)) 96).fst))).fst, c1 := (f1 (List.take 48 (List.drop 0 (f0 (List.take b.length (List.drop 0 b)) 96).fst))).fst }) { c0 := { l0 := UInt64.ofNat 4, l1 := UInt64.ofNat 0, l2 := UInt64.ofNat 0, l3 := UInt64.ofNat 0, l4 := UInt64.ofNat 0, l5 := UInt64.ofNat 0 }, c1 := { l0 := UInt64.ofNat 4, l1 := UInt64.ofNat 0, l2 := UInt64.ofNat 0, l3 := UInt64.ofNat 0, l4 := UInt64.ofNat 0, l5 := UInt64.ofNat 0 } })).fst, inf := false }))
                              (.leaf (some ((({ x := { c0 := { l0 := UInt64.ofNat 0, l1 := UInt64.ofNat 0, l2 := UInt64.ofNat 0, l3 := UInt64.ofNat 0, l4 := UInt64.ofNat 0, l5 := UInt64.ofNat 0 }, c1 := { l0 := UInt64.ofNat 0, l1 := UInt64.ofNat 0, l2 := UInt64.ofNat 0, l3 := UInt64.ofNat 0, l4 := UInt64.ofNat 0, l5 := UInt64.ofNat 0 } }, y := { c0 := { l0 := UInt64.ofNat 0, l1 := UInt64.ofNat 0, l2 := UInt64.ofNat 0, l3 := UInt64.ofNat 0, l4 := UInt64.ofNat 0, l5 := UInt64.ofNat 0 }, c1 := { l0 := UInt64.ofNat 0, l1 := UInt64.ofNat 0, l2 := UInt64.ofNat 0, l3 := UInt64.ofNat 0, l4 := UInt64.ofNat 0, l5 := UInt64.ofNat 0 } }, inf := false }, 6), .t))))
                              (.leaf (some ((({ x := { c0 := (f1 (List.take ((f0 (List.take b.length (List.drop 0 b)) 96).fst.length - 48) (List.drop 48 (f0 (List.take b.length (List.drop 0 b)) 96).fst))).fst, c1 := (f1 (List.take 48 (List.drop 0 (f0 (List.take b.length (List.drop 0 b)) 96).fst))).fst }, y := (f2 (f3 (f4 (f4 { c0 := (f1 (List.take ((f0 (List.take b.length (List.drop 0 b)) 96).fst.length - 48) (List.drop 48 (f0 (List.take b.length (List.drop 0 b)) 96).fst))).fst, c1 := (f1 (List.take 48 (List.drop 0 (f0 (List.take b.length (List.drop 0 b)) 96).fst))).fst } { c0 := (f1 (List.take ((f0 (List.take b.length (List.drop 0 b)) 96).fst.length - 48) (List.drop 48 (f0 (List.take b.length (List.drop 0 b)) 96).fst))).fst, c1 := (f1 (List.take 48 (List.drop 0 (f0 (List.take b.length (List.drop 0 b)) 96).fst))).fst }) { c0 := (f1 (List.take ((f0 (List.take b.length (List.drop 0 b)) 96).fst.length - 48) (List.drop 48 (f0 (List.take b.length (List.drop 0 b)) 96).fst))).fst, c1 := (f1 (List.take 48 (List.drop 0 (f0 (List.take b.length (List.drop 0 b)) 96).fst))).fst }) { c0 := { l0 := UInt64.ofNat 4, l1 := UInt64.ofNat 0, l2 := UInt64.ofNat 0, l3 := UInt64.ofNat 0, l4 := UInt64.ofNat 0, l5 := UInt64.ofNat 0 }, c1 := { l0 := UInt64.ofNat 4, l1 := UInt64.ofNat 0, l2 := UInt64.ofNat 0, l3 := UInt64.ofNat 0, l4 := UInt64.ofNat 0, l5 := UInt64.ofNat 0 } })).fst, inf := false }, 0), .t))))))
                          (.br (!(f6 { x := { c0 := (f1 (List.take ((f0 (List.take b.length (List.drop 0 b)) 96).fst.length - 48) (List.drop 48 (f0 (List.take b.length (List.drop 0 b)) 96).fst))).fst, c1 := (f1 (List.take 48 (List.drop 0 (f0 (List.take b.length (List.drop 0 b)) 96).fst))).fst }, y := (f2 (f3 (f4 (f4 { c0 := (f1 (List.take ((f0 (List.take b.length (List.drop 0 b)) 96).fst.length - 48) (List.drop 48 (f0 (List.take b.length (List.drop 0 b)) 96).fst))).fst, c1 := (f1 (List.take 48 (List.drop 0 (f0 (List.take b.length (List.drop 0 b)) 96).fst))).fst } { c0 := (f1 (List.take ((f0 (List.take b.length (List.drop 0 b)) 96).fst.length - 48) (List.drop 48 (f0 (List.take b.length (List.drop 0 b)) 96).fst))).fst, c1 := (f1 (List.take 48 (List.drop 0 (f0 (List.take b.length (List.drop 0 b)) 96).fst))).fst }) { c0 := (f1 (List.take ((f0 (List.take b.length (List.drop 0 b)) 96).fst.length - 48) (List.drop 48 (f0 (List.take b.length (List.drop 0 b)) 96).fst))).fst, c1 := (f1 (List.take 48 (List.drop 0 (f0 (List.take b.length (List.drop 0 b)) 96).fst))).fst }) { c0 := { l0 := UInt64.ofNat 4, l1 := UInt64.ofNat 0, l2 := UInt64.ofNat 0, l3 := UInt64.ofNat 0, l4 := UInt64.ofNat 0, l5 := UInt64.ofNat 0 }, c1 := { l0 := UInt64.ofNat 4, l1 := UInt64.ofNat 0, l2 := UInt64.ofNat 0, l3 := UInt64.ofNat 0, l4 := UInt64.ofNat 0, l5 := UInt64.ofNat 0 } })).fst, inf := false }))
                            (.leaf (some ((({ x := { c0 := { l0 := UInt64.ofNat 0, l1 := UInt64.ofNat 0, l2 := UInt64.ofNat 0, l3 := UInt64.ofNat 0, l4 := UInt64.ofNat 0, l5 := UInt64.ofNat 0 }, c1 := { l0 := UInt64.ofNat 0, l1 := UInt64.ofNat 0, l2 := UInt64.ofNat 0, l3 := UInt64.ofNat 0, l4 := UInt64.ofNat 0, l5 := UInt64.ofNat 0 } }, y := { c0 := { l0 := UInt64.ofNat 0, l1 := UInt64.ofNat 0, l2 := UInt64.ofNat 0, l3 := UInt64.ofNat 0, l4 := UInt64.ofNat 0, l5 := UInt64.ofNat 0 }, c1 := { l0 := UInt64.ofNat 0, l1 := UInt64.ofNat 0, l2 := UInt64.ofNat 0, l3 := UInt64.ofNat 0, l4 := UInt64.ofNat 0, l5 := UInt64.ofNat 0 } }, inf := false }, 6), .t))))
                            (.leaf (some ((({ x := { c0 := (f1 (List.take ((f0 (List.take b.length (List.drop 0 b)) 96).fst.length - 48) (List.drop 48 (f0 (List.take b.length (List.drop 0 b)) 96).fst))).fst, c1 := (f1 (List.take 48 (List.drop 0 (f0 (List.take b.length (List.drop 0 b)) 96).fst))).fst }, y := (f2 (f3 (f4 (f4 { c0 := (f1 (List.take ((f0 (List.take b.length (List.drop 0 b)) 96).fst.length - 48) (List.drop 48 (f0 (List.take b.length (List.drop 0 b)) 96).fst))).fst, c1 := (f1 (List.take 48 (List.drop 0 (f0 (List.take b.length (List.drop 0 b)) 96).fst))).fst } { c0 := (f1 (List.take ((f0 (List.take b.length (List.drop 0 b)) 96).fst.length - 48) (List.drop 48 (f0 (List.take b.length (List.drop 0 b)) 96).fst))).fst, c1 := (f1 (List.take 48 (List.drop 0 (f0 (List.take b.length (List.drop 0 b)) 96).fst))).fst }) { c0 := (f1 (List.take ((f0 (List.take b.length (List.drop 0 b)) 96).fst.length - 48) (List.drop 48 (f0 (List.take b.length (List.drop 0 b)) 96).fst))).fst, c1 := (f1 (List.take 48 (List.drop 0 (f0 (List.take b.length (List.drop 0 b)) 96).fst))).fst }) { c0 := { l0 := UInt64.ofNat 4, l1 := UInt64.ofNat 0, l2 := UInt64.ofNat 0, l3 := UInt64.ofNat 0, l4 := UInt64.ofNat 0, l5 := UInt64.ofNat 0 }, c1 := { l0 := UInt64.ofNat 4, l1 := UInt64.ofNat 0, l2 := UInt64.ofNat 0, l3 := UInt64.ofNat 0, l4 := UInt64.ofNat 0, l5 := UInt64.ofNat 0 } })).fst, inf := false }, 0), .t)))))))))))))))))
theorem take2F_run (f0 : List UInt8 → Int → List UInt8 × Bool × Bool × Int) (f1 : List UInt8 → Fp × Int) (f2 : Fp2 → Fp2 × Bool) (f3 : Fp2 → Fp2 → Fp2) (f4 : Fp2 → Fp2 → Fp2) (f5 : Pg2 → Pg2) (f6 : Pg2 → Bool) (b : List UInt8) : endT (Ens [(90, K2 aBs aN oB4.res f0), (91, Kftake f1), (100, K1 (kRow Fp2).arg ((kRow Fp2).rs2 kBool).res f2), (101, K2 (kRow Fp2).arg (kRow Fp2).arg (kRow Fp2).rs.res f3), (102, K2 (kRow Fp2).arg (kRow Fp2).arg (kRow Fp2).rs.res f4), (103, K1 (kRow Pg2).arg (kRow Pg2).rs.res f5), (104, K1 (kRow Pg2).arg kBool.rs.res f6)] [90]) ((kRow Pg2).rs2 kInt).out 300 Tryz.f46 (flat (codeOf Tryz.f46)) (startSt Tryz.f46 [iBs.av 0 b] [inHE eU8 b]) = take2F_T f0 f1 f2 f3 f4 f5 f6 b := by kernel_rfl
def take2F (b : List UInt8) : Pg2 × Int := (take2F_T bareF ftakeF sqrtF2 addF2 mulF2 negG2 inG2 b).outD (pg20, 0)
theorem take2F_ok' (h : ∀ (b : List UInt8), iBs.fact b → (take2F_T bareF ftakeF sqrtF2 addF2 mulF2 negG2 inG2 b).full = true ∧ (take2F_T bareF ftakeF sqrtF2 addF2 mulF2 negG2 inG2 b).okAll) : CallOk Tryz.prog 46 (K1 aBs ((kRow Pg2).rs2 kInt).out.res take2F) :=
  Go.Proofs.YtbbnabednkopdaaGreat.G1 (E := Ens [(90, K2 aBs aN oB4.res bareF), (91, Kftake ftakeF), (100, K1 (kRow Fp2).arg ((kRow Fp2).rs2 kBool).res sqrtF2), (101, K2 (kRow Fp2).arg (kRow Fp2).arg (kRow Fp2).rs.res addF2), (102, K2 (kRow Fp2).arg (kRow Fp2).arg (kRow Fp2).rs.res mulF2), (103, K1 (kRow Pg2).arg (kRow Pg2).rs.res negG2), (104, K1 (kRow Pg2).arg kBool.rs.res inG2)] [90]) Tryz.func46 (c := codeOf Tryz.f46) (by kernel_rfl) (bodied Tryz.func46 (by kernel_rfl) (by kernel_rfl)) iBs ((kRow Pg2).rs2 kInt).out take2F fun b hb => DoesL.outs (Ens_ok (.cons bare_ok (.cons ftake_ok (.cons sqrtF2_ok (.cons addF2_ok (.cons mulF2_ok (.cons negG2_ok (.cons inG2_ok .nil)))))))) 300 (pg20, 0) (take2F_run bareF ftakeF sqrtF2 addF2 mulF2 negG2 inG2 b) (h b hb).1 (h b hb).2
end Go.Proofs.YtbbnabednkopdaaGreat

set_option linter.unusedSimpArgs false
set_option linter.unusedVariables false
namespace Go.Proofs.YtbbnabednkopdaaGreat
open Go.RowKit
abbrev okF (f : List UInt8 → Int → List UInt8 × Bool × Bool × Int) (b : List UInt8) (n : Int) : Prop := (f b n).1.length ≤ b.length ∧ ((f b n).2.2.2 = 0 → (f b n).2.1 = false → ((f b n).1.length : Int) = n)
theorem int2 : ¬ ((2 : Int) = 0) := by decide
theorem int3 : ¬ ((3 : Int) = 0) := by decide
theorem int8 : ¬ ((8 : Int) = 0) := by decide
theorem bareG_ok (c1 c2 c3 c4 c5 c6 : Bool) (l : List UInt8) {m : Nat} {n : Int} (hl : l.length ≤ m) (h : c1 = false → c2 = false → (l.length : Int) = n) : (bareG c1 c2 c3 c4 c5 c6 l).1.length ≤ m ∧ ((bareG c1 c2 c3 c4 c5 c6 l).2.2.2 = 0 → (bareG c1 c2 c3 c4 c5 c6 l).2.1 = false → ((bareG c1 c2 c3 c4 c5 c6 l).1.length : Int) = n) := by
  cases c1 <;> cases c2 <;> cases c3 <;> cases c4 <;> cases c5 <;> cases c6 <;> first
    | exact ⟨hl, fun _ _ => h rfl rfl⟩
    | exact ⟨hl, fun _ h => Bool.noConfusion h⟩
    | exact ⟨Nat.zero_le _, fun h => absurd h int2⟩
    | exact ⟨Nat.zero_le _, fun h => absurd h int3⟩
    | exact ⟨Nat.zero_le _, fun h => absurd h int8⟩
theorem bare_okF (b : List UInt8) (n : Int) : okF bareF b n :=
  bareG_ok _ _ _ _ _ _ (bareL b) (Nat.le_of_eq (bareL_len b)) fun h1 h2 => by
    have h1 := of_decide_eq_false h1
    have h2 := of_decide_eq_false h2
    have hl := bareL_len b
    omega
theorem int_zero {n : Int} (h : (n != 0) = false) : n = 0 := by simpa using h
theorem size48 : sizeB 48 := ⟨by decide, by decide⟩
theorem size96 : sizeB 96 := ⟨by decide, by decide⟩
theorem takes_b {l : List UInt8} {s n : Nat} (h : n < 16777216) : littleB (List.take n (List.drop s l)) := by show (List.take n (List.drop s l)).length < _; rw [List.length_take]; omega
theorem map_b (l : List UInt8) : (List.map EK.u8.cell l).length = l.length := u8_map l
theorem take1_all {f0 : List UInt8 → Int → List UInt8 × Bool × Bool × Int} {f1 f2 f3 f4 f5 f6 f7} (b : List UInt8) (hF : okF f0 b 48) (hb : b.length < 16777216) : (take1F_T f0 f1 f2 f3 f4 f5 f6 f7 b).full = true ∧ (take1F_T f0 f1 f2 f3 f4 f5 f6 f7 b).okAll := by
  refine ⟨rfl, ?_⟩
  obtain ⟨h1, h2⟩ := hF
  unfold take1F_T
  simp only [Tree.okAll, whole8, Pr.holds, implies_true, and_true, true_and]
  have h3 := Nat.lt_of_le_of_lt h1 hb
  refine ⟨⟨⟨?_, hb⟩, size48⟩, fun _ _ => ⟨?_, h3⟩⟩ <;> omega
theorem take2_all {f0 : List UInt8 → Int → List UInt8 × Bool × Bool × Int} {f1 f2 f3 f4 f5 f6} (b : List UInt8) (hF : okF f0 b 96) (hb : b.length < 16777216) : (take2F_T f0 f1 f2 f3 f4 f5 f6 b).full = true ∧ (take2F_T f0 f1 f2 f3 f4 f5 f6 b).okAll := by
  refine ⟨rfl, ?_⟩
  obtain ⟨h1, h2⟩ := hF
  unfold take2F_T
  simp only [Tree.okAll, whole8, Pr.holds, implies_true, and_true, true_and]
  refine ⟨⟨⟨by omega, hb⟩, size96⟩, fun a1 a2 => ?_⟩
  have hl : (f0 b 96).1.length = 96 := by have := h2 (int_zero a1) a2; omega
  have hm := map_b (f0 b 96).1
  refine ⟨?_, ⟨?_, takes_b (by omega)⟩, fun _ => ⟨?_, ?_, takes_b (by omega)⟩⟩ <;> omega
theorem take1F_ok : CallOk Tryz.prog 44 (K1 aBs ((kRow Pg1).rs2 kInt).out.res take1F) := take1F_ok' fun b hb => take1_all b (bare_okF b 48) hb.2
theorem take2F_ok : CallOk Tryz.prog 46 (K1 aBs ((kRow Pg2).rs2 kInt).out.res take2F) := take2F_ok' fun b hb => take2_all b (bare_okF b 96) hb.2
end Go.Proofs.YtbbnabednkopdaaGreat

set_option linter.unusedSimpArgs false
set_option linter.unusedVariables false
namespace Go.Proofs.YtbbnabednkopdaaGreat
open Go.RowKit
def out8_G (f0 : UInt64 → Fp) (f1 : Fp → Fp × Bool) (f2 : Fp → Fp → Fp) (f3 : Fp → Fp → Fp) (n : UInt64) : Pg1 × Bool := (match ((f1 (f2 (f3 (f3 (f0 (n % UInt64.ofNat 1000000 + UInt64.ofNat 0)) (f0 (n % UInt64.ofNat 1000000 + UInt64.ofNat 0))) (f0 (n % UInt64.ofNat 1000000 + UInt64.ofNat 0))) (f0 (4 : UInt64)))).snd) with | true => (({ x := f0 (n % UInt64.ofNat 1000000 + UInt64.ofNat 0), y := (f1 (f2 (f3 (f3 (f0 (n % UInt64.ofNat 1000000 + UInt64.ofNat 0)) (f0 (n % UInt64.ofNat 1000000 + UInt64.ofNat 0))) (f0 (n % UInt64.ofNat 1000000 + UInt64.ofNat 0))) (f0 (4 : UInt64)))).fst, inf := false }, true)) | false => (match ((f1 (f2 (f3 (f3 (f0 (n % UInt64.ofNat 1000000 + UInt64.ofNat 1)) (f0 (n % UInt64.ofNat 1000000 + UInt64.ofNat 1))) (f0 (n % UInt64.ofNat 1000000 + UInt64.ofNat 1))) (f0 (4 : UInt64)))).snd) with | true => (({ x := f0 (n % UInt64.ofNat 1000000 + UInt64.ofNat 1), y := (f1 (f2 (f3 (f3 (f0 (n % UInt64.ofNat 1000000 + UInt64.ofNat 1)) (f0 (n % UInt64.ofNat 1000000 + UInt64.ofNat 1))) (f0 (n % UInt64.ofNat 1000000 + UInt64.ofNat 1))) (f0 (4 : UInt64)))).fst, inf := false }, true)) | false => (match ((f1 (f2 (f3 (f3 (f0 (n % UInt64.ofNat 1000000 + UInt64.ofNat 2)) (f0 (n % UInt64.ofNat 1000000 + UInt64.ofNat 2))) (f0 (n % UInt64.ofNat 1000000 + UInt64.ofNat 2))) (f0 (4 : UInt64)))).snd) with | true => (({ x := f0 (n % UInt64.ofNat 1000000 + UInt64.ofNat 2), y := (f1 (f2 (f3 (f3 (f0 (n % UInt64.ofNat 1000000 + UInt64.ofNat 2)) (f0 (n % UInt64.ofNat 1000000 + UInt64.ofNat 2))) (f0 (n % UInt64.ofNat 1000000 + UInt64.ofNat 2))) (f0 (4 : UInt64)))).fst, inf := false }, true)) | false => (match ((f1 (f2 (f3 (f3 (f0 (n % UInt64.ofNat 1000000 + UInt64.ofNat 3)) (f0 (n % UInt64.ofNat 1000000 + UInt64.ofNat 3))) (f0 (n % UInt64.ofNat 1000000 + UInt64.ofNat 3))) (f0 (4 : UInt64)))).snd) with | true => (({ x := f0 (n % UInt64.ofNat 1000000 + UInt64.ofNat 3), y := (f1 (f2 (f3 (f3 (f0 (n % UInt64.ofNat 1000000 + UInt64.ofNat 3)) (f0 (n % UInt64.ofNat 1000000 + UInt64.ofNat 3))) (f0 (n % UInt64.ofNat 1000000 + UInt64.ofNat 3))) (f0 (4 : UInt64)))).fst, inf := false }, true)) | false => (match ((f1 (f2 (f3 (f3 (f0 (n % UInt64.ofNat 1000000 + UInt64.ofNat 4)) (f0 (n % UInt64.ofNat 1000000 + UInt64.ofNat 4))) (f0 (n % UInt64.ofNat 1000000 + UInt64.ofNat 4))) (f0 (4 : UInt64)))).snd) with | true => (({ x := f0 (n % UInt64.ofNat 1000000 + UInt64.ofNat 4), y := (f1 (f2 (f3 (f3 (f0 (n % UInt64.ofNat 1000000 + UInt64.ofNat 4)) (f0 (n % UInt64.ofNat 1000000 + UInt64.ofNat 4))) (f0 (n % UInt64.ofNat 1000000 + UInt64.ofNat 4))) (f0 (4 : UInt64)))).fst, inf := false }, true)) | false => (match ((f1 (f2 (f3 (f3 (f0 (n % UInt64.ofNat 1000000 + UInt64.ofNat 5)) (f0 (n % UInt64.ofNat 1000000 + UInt64.ofNat 5))) (f0 (n % UInt64.ofNat 1000000 + UInt64.ofNat 5))) (f0 (4 : UInt64)))).snd) with | true => (({ x := f0 (n % UInt64.ofNat 1000000 + UInt64.ofNat 5), y := (f1 (f2 (f3 (f3 (f0 (n % UInt64.ofNat 1000000 + UInt64.ofNat 5)) (f0 (n % UInt64.ofNat 1000000 + UInt64.ofNat 5))) (f0 (n % UInt64.ofNat 1000000 + UInt64.ofNat 5))) (f0 (4 : UInt64)))).fst, inf := false }, true)) | false => (match ((f1 (f2 (f3 (f3 (f0 (n % UInt64.ofNat 1000000 + UInt64.ofNat 6)) (f0 (n % UInt64.ofNat 1000000 + UInt64.ofNat 6))) (f0 (n % UInt64.ofNat 1000000 + UInt64.ofNat 6))) (f0 (4 : UInt64)))).snd) with | true => (({ x := f0 (n % UInt64.ofNat 1000000 + UInt64.ofNat 6), y := (f1 (f2 (f3 (f3 (f0 (n % UInt64.ofNat 1000000 + UInt64.ofNat 6)) (f0 (n % UInt64.ofNat 1000000 + UInt64.ofNat 6))) (f0 (n % UInt64.ofNat 1000000 + UInt64.ofNat 6))) (f0 (4 : UInt64)))).fst, inf := false }, true)) | false => (match ((f1 (f2 (f3 (f3 (f0 (n % UInt64.ofNat 1000000 + UInt64.ofNat 7)) (f0 (n % UInt64.ofNat 1000000 + UInt64.ofNat 7))) (f0 (n % UInt64.ofNat 1000000 + UInt64.ofNat 7))) (f0 (4 : UInt64)))).snd) with | true => (({ x := f0 (n % UInt64.ofNat 1000000 + UInt64.ofNat 7), y := (f1 (f2 (f3 (f3 (f0 (n % UInt64.ofNat 1000000 + UInt64.ofNat 7)) (f0 (n % UInt64.ofNat 1000000 + UInt64.ofNat 7))) (f0 (n % UInt64.ofNat 1000000 + UInt64.ofNat 7))) (f0 (4 : UInt64)))).fst, inf := false }, true)) | false => (match ((f1 (f2 (f3 (f3 (f0 (n % UInt64.ofNat 1000000 + UInt64.ofNat 8)) (f0 (n % UInt64.ofNat 1000000 + UInt64.ofNat 8))) (f0 (n % UInt64.ofNat 1000000 + UInt64.ofNat 8))) (f0 (4 : UInt64)))).snd) with | true => (({ x := f0 (n % UInt64.ofNat 1000000 + UInt64.ofNat 8), y := (f1 (f2 (f3 (f3 (f0 (n % UInt64.ofNat 1000000 + UInt64.ofNat 8)) (f0 (n % UInt64.ofNat 1000000 + UInt64.ofNat 8))) (f0 (n % UInt64.ofNat 1000000 + UInt64.ofNat 8))) (f0 (4 : UInt64)))).fst, inf := false }, true)) | false => (match ((f1 (f2 (f3 (f3 (f0 (n % UInt64.ofNat 1000000 + UInt64.ofNat 9)) (f0 (n % UInt64.ofNat 1000000 + UInt64.ofNat 9))) (f0 (n % UInt64.ofNat 1000000 + UInt64.ofNat 9))) (f0 (4 : UInt64)))).snd) with | true => (({ x := f0 (n % UInt64.ofNat 1000000 + UInt64.ofNat 9), y := (f1 (f2 (f3 (f3 (f0 (n % UInt64.ofNat 1000000 + UInt64.ofNat 9)) (f0 (n % UInt64.ofNat 1000000 + UInt64.ofNat 9))) (f0 (n % UInt64.ofNat 1000000 + UInt64.ofNat 9))) (f0 (4 : UInt64)))).fst, inf := false }, true)) | false => (match ((f1 (f2 (f3 (f3 (f0 (n % UInt64.ofNat 1000000 + UInt64.ofNat 10)) (f0 (n % UInt64.ofNat 1000000 + UInt64.ofNat 10))) (f0 (n % UInt64.ofNat 1000000 + UInt64.ofNat 10))) (f0 (4 : UInt64)))).snd) with | true => (({ x := f0 (n % UInt64.ofNat 1000000 + UInt64.ofNat 10), y := (f1 (f2 (f3 (f3 (f0 (n % UInt64.ofNat 1000000 + UInt64.ofNat 10)) (f0 (n % UInt64.ofNat 1000000 + UInt64.ofNat 10))) (f0 (n % UInt64.ofNat 1000000 + UInt64.ofNat 10))) (f0 (4 : UInt64)))).fst, inf := false }, true)) | false => (match ((f1 (f2 (f3 (f3 (f0 (n % UInt64.ofNat 1000000 + UInt64.ofNat 11)) (f0 (n % UInt64.ofNat 1000000 + UInt64.ofNat 11))) (f0 (n % UInt64.ofNat 1000000 + UInt64.ofNat 11))) (f0 (4 : UInt64)))).snd) with | true => (({ x := f0 (n % UInt64.ofNat 1000000 + UInt64.ofNat 11), y := (f1 (f2 (f3 (f3 (f0 (n % UInt64.ofNat 1000000 + UInt64.ofNat 11)) (f0 (n % UInt64.ofNat 1000000 + UInt64.ofNat 11))) (f0 (n % UInt64.ofNat 1000000 + UInt64.ofNat 11))) (f0 (4 : UInt64)))).fst, inf := false }, true)) | false => (match ((f1 (f2 (f3 (f3 (f0 (n % UInt64.ofNat 1000000 + UInt64.ofNat 12)) (f0 (n % UInt64.ofNat 1000000 + UInt64.ofNat 12))) (f0 (n % UInt64.ofNat 1000000 + UInt64.ofNat 12))) (f0 (4 : UInt64)))).snd) with | true => (({ x := f0 (n % UInt64.ofNat 1000000 + UInt64.ofNat 12), y := (f1 (f2 (f3 (f3 (f0 (n % UInt64.ofNat 1000000 + UInt64.ofNat 12)) (f0 (n % UInt64.ofNat 1000000 + UInt64.ofNat 12))) (f0 (n % UInt64.ofNat 1000000 + UInt64.ofNat 12))) (f0 (4 : UInt64)))).fst, inf := false }, true)) | false => (match ((f1 (f2 (f3 (f3 (f0 (n % UInt64.ofNat 1000000 + UInt64.ofNat 13)) (f0 (n % UInt64.ofNat 1000000 + UInt64.ofNat 13))) (f0 (n % UInt64.ofNat 1000000 + UInt64.ofNat 13))) (f0 (4 : UInt64)))).snd) with | true => (({ x := f0 (n % UInt64.ofNat 1000000 + UInt64.ofNat 13), y := (f1 (f2 (f3 (f3 (f0 (n % UInt64.ofNat 1000000 + UInt64.ofNat 13)) (f0 (n % UInt64.ofNat 1000000 + UInt64.ofNat 13))) (f0 (n % UInt64.ofNat 1000000 + UInt64.ofNat 13))) (f0 (4 : UInt64)))).fst, inf := false }, true)) | false => (match ((f1 (f2 (f3 (f3 (f0 (n % UInt64.ofNat 1000000 + UInt64.ofNat 14)) (f0 (n % UInt64.ofNat 1000000 + UInt64.ofNat 14))) (f0 (n % UInt64.ofNat 1000000 + UInt64.ofNat 14))) (f0 (4 : UInt64)))).snd) with | true => (({ x := f0 (n % UInt64.ofNat 1000000 + UInt64.ofNat 14), y := (f1 (f2 (f3 (f3 (f0 (n % UInt64.ofNat 1000000 + UInt64.ofNat 14)) (f0 (n % UInt64.ofNat 1000000 + UInt64.ofNat 14))) (f0 (n % UInt64.ofNat 1000000 + UInt64.ofNat 14))) (f0 (4 : UInt64)))).fst, inf := false }, true)) | false => (match ((f1 (f2 (f3 (f3 (f0 (n % UInt64.ofNat 1000000 + UInt64.ofNat 15)) (f0 (n % UInt64.ofNat 1000000 + UInt64.ofNat 15))) (f0 (n % UInt64.ofNat 1000000 + UInt64.ofNat 15))) (f0 (4 : UInt64)))).snd) with | true => (({ x := f0 (n % UInt64.ofNat 1000000 + UInt64.ofNat 15), y := (f1 (f2 (f3 (f3 (f0 (n % UInt64.ofNat 1000000 + UInt64.ofNat 15)) (f0 (n % UInt64.ofNat 1000000 + UInt64.ofNat 15))) (f0 (n % UInt64.ofNat 1000000 + UInt64.ofNat 15))) (f0 (4 : UInt64)))).fst, inf := false }, true)) | false => (match ((f1 (f2 (f3 (f3 (f0 (n % UInt64.ofNat 1000000 + UInt64.ofNat 16)) (f0 (n % UInt64.ofNat 1000000 + UInt64.ofNat 16))) (f0 (n % UInt64.ofNat 1000000 + UInt64.ofNat 16))) (f0 (4 : UInt64)))).snd) with | true => (({ x := f0 (n % UInt64.ofNat 1000000 + UInt64.ofNat 16), y := (f1 (f2 (f3 (f3 (f0 (n % UInt64.ofNat 1000000 + UInt64.ofNat 16)) (f0 (n % UInt64.ofNat 1000000 + UInt64.ofNat 16))) (f0 (n % UInt64.ofNat 1000000 + UInt64.ofNat 16))) (f0 (4 : UInt64)))).fst, inf := false }, true)) | false => (match ((f1 (f2 (f3 (f3 (f0 (n % UInt64.ofNat 1000000 + UInt64.ofNat 17)) (f0 (n % UInt64.ofNat 1000000 + UInt64.ofNat 17))) (f0 (n % UInt64.ofNat 1000000 + UInt64.ofNat 17))) (f0 (4 : UInt64)))).snd) with | true => (({ x := f0 (n % UInt64.ofNat 1000000 + UInt64.ofNat 17), y := (f1 (f2 (f3 (f3 (f0 (n % UInt64.ofNat 1000000 + UInt64.ofNat 17)) (f0 (n % UInt64.ofNat 1000000 + UInt64.ofNat 17))) (f0 (n % UInt64.ofNat 1000000 + UInt64.ofNat 17))) (f0 (4 : UInt64)))).fst, inf := false }, true)) | false => (match ((f1 (f2 (f3 (f3 (f0 (n % UInt64.ofNat 1000000 + UInt64.ofNat 18)) (f0 (n % UInt64.ofNat 1000000 + UInt64.ofNat 18))) (f0 (n % UInt64.ofNat 1000000 + UInt64.ofNat 18))) (f0 (4 : UInt64)))).snd) with | true => (({ x := f0 (n % UInt64.ofNat 1000000 + UInt64.ofNat 18), y := (f1 (f2 (f3 (f3 (f0 (n % UInt64.ofNat 1000000 + UInt64.ofNat 18)) (f0 (n % UInt64.ofNat 1000000 + UInt64.ofNat 18))) (f0 (n % UInt64.ofNat 1000000 + UInt64.ofNat 18))) (f0 (4 : UInt64)))).fst, inf := false }, true)) | false => (match ((f1 (f2 (f3 (f3 (f0 (n % UInt64.ofNat 1000000 + UInt64.ofNat 19)) (f0 (n % UInt64.ofNat 1000000 + UInt64.ofNat 19))) (f0 (n % UInt64.ofNat 1000000 + UInt64.ofNat 19))) (f0 (4 : UInt64)))).snd) with | true => (({ x := f0 (n % UInt64.ofNat 1000000 + UInt64.ofNat 19), y := (f1 (f2 (f3 (f3 (f0 (n % UInt64.ofNat 1000000 + UInt64.ofNat 19)) (f0 (n % UInt64.ofNat 1000000 + UInt64.ofNat 19))) (f0 (n % UInt64.ofNat 1000000 + UInt64.ofNat 19))) (f0 (4 : UInt64)))).fst, inf := false }, true)) | false => (({ x := zeroFp, y := zeroFp, inf := false }, false))))))))))))))))))))))
def out8_T (f0 : UInt64 → Fp) (f1 : Fp → Fp × Bool) (f2 : Fp → Fp → Fp) (f3 : Fp → Fp → Fp) (n : UInt64) : Tree (Option (Pg1 × Bool)) :=
  (.br ((f1 (f2 (f3 (f3 (f0 (n % UInt64.ofNat 1000000 + UInt64.ofNat 0)) (f0 (n % UInt64.ofNat 1000000 + UInt64.ofNat 0))) (f0 (n % UInt64.ofNat 1000000 + UInt64.ofNat 0))) (f0 (4 : UInt64)))).snd)
    (.leaf (some (({ x := f0 (n % UInt64.ofNat 1000000 + UInt64.ofNat 0), y := (f1 (f2 (f3 (f3 (f0 (n % UInt64.ofNat 1000000 + UInt64.ofNat 0)) (f0 (n % UInt64.ofNat 1000000 + UInt64.ofNat 0))) (f0 (n % UInt64.ofNat 1000000 + UInt64.ofNat 0))) (f0 (4 : UInt64)))).fst, inf := false }, true))))
    (.br ((f1 (f2 (f3 (f3 (f0 (n % UInt64.ofNat 1000000 + UInt64.ofNat 1)) (f0 (n % UInt64.ofNat 1000000 + UInt64.ofNat 1))) (f0 (n % UInt64.ofNat 1000000 + UInt64.ofNat 1))) (f0 (4 : UInt64)))).snd)
      (.leaf (some (({ x := f0 (n % UInt64.ofNat 1000000 + UInt64.ofNat 1), y := (f1 (f2 (f3 (f3 (f0 (n % UInt64.ofNat 1000000 + UInt64.ofNat 1)) (f0 (n % UInt64.ofNat 1000000 + UInt64.ofNat 1))) (f0 (n % UInt64.ofNat 1000000 + UInt64.ofNat 1))) (f0 (4 : UInt64)))).fst, inf := false }, true))))
      (.br ((f1 (f2 (f3 (f3 (f0 (n % UInt64.ofNat 1000000 + UInt64.ofNat 2)) (f0 (n % UInt64.ofNat 1000000 + UInt64.ofNat 2))) (f0 (n % UInt64.ofNat 1000000 + UInt64.ofNat 2))) (f0 (4 : UInt64)))).snd)
        (.leaf (some (({ x := f0 (n % UInt64.ofNat 1000000 + UInt64.ofNat 2), y := (f1 (f2 (f3 (f3 (f0 (n % UInt64.ofNat 1000000 + UInt64.ofNat 2)) (f0 (n % UInt64.ofNat 1000000 + UInt64.ofNat 2))) (f0 (n % UInt64.ofNat 1000000 + UInt64.ofNat 2))) (f0 (4 : UInt64)))).fst, inf := false }, true))))
        (.br ((f1 (f2 (f3 (f3 (f0 (n % UInt64.ofNat 1000000 + UInt64.ofNat 3)) (f0 (n % UInt64.ofNat 1000000 + UInt64.ofNat 3))) (f0 (n % UInt64.ofNat 1000000 + UInt64.ofNat 3))) (f0 (4 : UInt64)))).snd)
          (.leaf (some (({ x := f0 (n % UInt64.ofNat 1000000 + UInt64.ofNat 3), y := (f1 (f2 (f3 (f3 (f0 (n % UInt64.ofNat 1000000 + UInt64.ofNat 3)) (f0 (n % UInt64.ofNat 1000000 + UInt64.ofNat 3))) (f0 (n % UInt64.ofNat 1000000 + UInt64.ofNat 3))) (f0 (4 : UInt64)))).fst, inf := false }, true))))
          (.br ((f1 (f2 (f3 (f3 (f0 (n % UInt64.ofNat 1000000 + UInt64.ofNat 4)) (f0 (n % UInt64.ofNat 1000000 + UInt64.ofNat 4))) (f0 (n % UInt64.ofNat 1000000 + UInt64.ofNat 4))) (f0 (4 : UInt64)))).snd)
            (.leaf (some (({ x := f0 (n % UInt64.ofNat 1000000 + UInt64.ofNat 4), y := (f1 (f2 (f3 (f3 (f0 (n % UInt64.ofNat 1000000 + UInt64.ofNat 4)) (f0 (n % UInt64.ofNat 1000000 + UInt64.ofNat 4))) (f0 (n % UInt64.ofNat 1000000 + UInt64.ofNat 4))) (f0 (4 : UInt64)))).fst, inf := false }, true))))
            (.br ((f1 (f2 (f3 (f3 (f0 (n % UInt64.ofNat 1000000 + UInt64.ofNat 5)) (f0 (n % UInt64.ofNat 1000000 + UInt64.ofNat 5))) (f0 (n % UInt64.ofNat 1000000 + UInt64.ofNat 5))) (f0 (4 : UInt64)))).snd)
              (.leaf (some (({ x := f0 (n % UInt64.ofNat 1000000 + UInt64.ofNat 5), y := (f1 (f2 (f3 (f3 (f0 (n % UInt64.ofNat 1000000 + UInt64.ofNat 5)) (f0 (n % UInt64.ofNat 1000000 + UInt64.ofNat 5))) (f0 (n % UInt64.ofNat 1000000 + UInt64.ofNat 5))) (f0 (4 : UInt64)))).fst, inf := false }, true))))
              (.br ((f1 (f2 (f3 (f3 (f0 (n % UInt64.ofNat 1000000 + UInt64.ofNat 6)) (f0 (n % UInt64.ofNat 1000000 + UInt64.ofNat 6))) (f0 (n % UInt64.ofNat 1000000 + UInt64.ofNat 6))) (f0 (4 : UInt64)))).snd)
                (.leaf (some (({ x := f0 (n % UInt64.ofNat 1000000 + UInt64.ofNat 6), y := (f1 (f2 (f3 (f3 (f0 (n % UInt64.ofNat 1000000 + UInt64.ofNat 6)) (f0 (n % UInt64.ofNat 1000000 + UInt64.ofNat 6))) (f0 (n % UInt64.ofNat 1000000 + UInt64.ofNat 6))) (f0 (4 : UInt64)))).fst, inf := false }, true))))
                (.br ((f1 (f2 (f3 (f3 (f0 (n % UInt64.ofNat 1000000 + UInt64.ofNat 7)) (f0 (n % UInt64.ofNat 1000000 + UInt64.ofNat 7))) (f0 (n % UInt64.ofNat 1000000 + UInt64.ofNat 7))) (f0 (4 : UInt64)))).snd)
                  (.leaf (some (({ x := f0 (n % UInt64.ofNat 1000000 + UInt64.ofNat 7), y := (f1 (f2 (f3 (f3 (f0 (n % UInt64.ofNat 1000000 + UInt64.ofNat 7)) (f0 (n % UInt64.ofNat 1000000 + UInt64.ofNat 7))) (f0 (n % UInt64.ofNat 1000000 + UInt64.ofNat 7))) (f0 (4 : UInt64)))).fst, inf := false }, true))))
                  (.br ((f1 (f2 (f3 (f3 (f0 (n % UInt64.ofNat 1000000 + UInt64.ofNat 8)) (f0 (n % UInt64.ofNat 1000000 + UInt64.ofNat 8))) (f0 (n % UInt64.ofNat 1000000 + UInt64.ofNat 8))) (f0 (4 : UInt64)))).snd)
                    (.leaf (some (({ x := f0 (n % UInt64.ofNat 1000000 + UInt64.ofNat 8), y := (f1 (f2 (f3 (f3 (f0 (n % UInt64.ofNat 1000000 + UInt64.ofNat 8)) (f0 (n % UInt64.ofNat 1000000 + UInt64.ofNat 8))) (f0 (n % UInt64.ofNat 1000000 + UInt64.ofNat 8))) (f0 (4 : UInt64)))).fst, inf := false }, true))))
                    (.br ((f1 (f2 (f3 (f3 (f0 (n % UInt64.ofNat 1000000 + UInt64.ofNat 9)) (f0 (n % UInt64.ofNat 1000000 + UInt64.ofNat 9))) (f0 (n % UInt64.ofNat 1000000 + UInt64.ofNat 9))) (f0 (4 : UInt64)))).snd)
                      (.leaf (some (({ x := f0 (n % UInt64.ofNat 1000000 + UInt64.ofNat 9), y := (f1 (f2 (f3 (f3 (f0 (n % UInt64.ofNat 1000000 + UInt64.ofNat 9)) (f0 (n % UInt64.ofNat 1000000 + UInt64.ofNat 9))) (f0 (n % UInt64.ofNat 1000000 + UInt64.ofNat 9))) (f0 (4 : UInt64)))).fst, inf := false }, true))))
                      (.br ((f1 (f2 (f3 (f3 (f0 (n % UInt64.ofNat 1000000 + UInt64.ofNat 10)) (f0 (n % UInt64.ofNat 1000000 + UInt64.ofNat 10))) (f0 (n % UInt64.ofNat 1000000 + UInt64.ofNat 10))) (f0 (4 : UInt64)))).snd)
                        (.leaf (some (({ x := f0 (n % UInt64.ofNat 1000000 + UInt64.ofNat 10), y := (f1 (f2 (f3 (f3 (f0 (n % UInt64.ofNat 1000000 + UInt64.ofNat 10)) (f0 (n % UInt64.ofNat 1000000 + UInt64.ofNat 10))) (f0 (n % UInt64.ofNat 1000000 + UInt64.ofNat 10))) (f0 (4 : UInt64)))).fst, inf := false }, true))))
                        (.br ((f1 (f2 (f3 (f3 (f0 (n % UInt64.ofNat 1000000 + UInt64.ofNat 11)) (f0 (n % UInt64.ofNat 1000000 + UInt64.ofNat 11))) (f0 (n % UInt64.ofNat 1000000 + UInt64.ofNat 11))) (f0 (4 : UInt64)))).snd)
                          (.leaf (some (({ x := f0 (n % UInt64.ofNat 1000000 + UInt64.ofNat 11), y := (f1 (f2 (f3 (f3 (f0 (n % UInt64.ofNat 1000000 + UInt64.ofNat 11)) (f0 (n % UInt64.ofNat 1000000 + UInt64.ofNat 11))) (f0 (n % UInt64.ofNat 1000000 + UInt64.ofNat 11))) (f0 (4 : UInt64)))).fst, inf := false }, true))))
                          (.br ((f1 (f2 (f3 (f3 (f0 (n % UInt64.ofNat 1000000 + UInt64.ofNat 12)) (f0 (n % UInt64.ofNat 1000000 + UInt64.ofNat 12))) (f0 (n % UInt64.ofNat 1000000 + UInt64.ofNat 12))) (f0 (4 : UInt64)))).snd)
                            (.leaf (some (({ x := f0 (n % UInt64.ofNat 1000000 + UInt64.ofNat 12), y := (f1 (f2 (f3 (f3 (f0 (n % UInt64.ofNat 1000000 + UInt64.ofNat 12)) (f0 (n % UInt64.ofNat 1000000 + UInt64.ofNat 12))) (f0 (n % UInt64.ofNat 1000000 + UInt64.ofNat 12))) (f0 (4 : UInt64)))).fst, inf := false }, true))))
                            (.br ((f1 (f2 (f3 (f3 (f0 (n % UInt64.ofNat 1000000 + UInt64.ofNat 13)) (f0 (n % UInt64.ofNat 1000000 + UInt64.ofNat 13))) (f0 (n % UInt64.ofNat 1000000 + UInt64.ofNat 13))) (f0 (4 : UInt64)))).snd)
                              (.leaf (some (({ x := f0 (n % UInt64.ofNat 1000000 + UInt64.ofNat 13), y := (f1 (f2 (f3 (f3 (f0 (n % UInt64.ofNat 1000000 + UInt64.ofNat 13)) (f0 (n % UInt64.ofNat 1000000 + UInt64.ofNat 13))) (f0 (n % UInt64.ofNat 1000000 + UInt64.ofNat 13))) (f0 (4 : UInt64)))).fst, inf := false }, true))))
                              (.br ((f1 (f2 (f3 (f3 (f0 (n % UInt64.ofNat 1000000 + UInt64.ofNat 14)) (f0 (n % UInt64.ofNat 1000000 + UInt64.ofNat 14))) (f0 (n % UInt64.ofNat 1000000 + UInt64.ofNat 14))) (f0 (4 : UInt64)))).snd)
                                (.leaf (some (({ x := f0 (n % UInt64.ofNat 1000000 + UInt64.ofNat 14), y := (f1 (f2 (f3 (f3 (f0 (n % UInt64.ofNat 1000000 + UInt64.ofNat 14)) (f0 (n % UInt64.ofNat 1000000 + UInt64.ofNat 14))) (f0 (n % UInt64.ofNat 1000000 + UInt64.ofNat 14))) (f0 (4 : UInt64)))).fst, inf := false }, true))))
                                (.br ((f1 (f2 (f3 (f3 (f0 (n % UInt64.ofNat 1000000 + UInt64.ofNat 15)) (f0 (n % UInt64.ofNat 1000000 + UInt64.ofNat 15))) (f0 (n % UInt64.ofNat 1000000 + UInt64.ofNat 15))) (f0 (4 : UInt64)))).snd)
                                  (.leaf (some (({ x := f0 (n % UInt64.ofNat 1000000 + UInt64.ofNat 15), y := (f1 (f2 (f3 (f3 (f0 (n % UInt64.ofNat 1000000 + UInt64.ofNat 15)) (f0 (n % UInt64.ofNat 1000000 + UInt64.ofNat 15))) (f0 (n % UInt64.ofNat 1000000 + UInt64.ofNat 15))) (f0 (4 : UInt64)))).fst, inf := false }, true))))
                                  (.br ((f1 (f2 (f3 (f3 (f0 (n % UInt64.ofNat 1000000 + UInt64.ofNat 16)) (f0 (n % UInt64.ofNat 1000000 + UInt64.ofNat 16))) (f0 (n % UInt64.ofNat 1000000 + UInt64.ofNat 16))) (f0 (4 : UInt64)))).snd)
                                    (.leaf (some (({ x := f0 (n % UInt64.ofNat 1000000 + UInt64.ofNat 16), y := (f1 (f2 (f3 (f3 (f0 (n % UInt64.ofNat 1000000 + UInt64.ofNat 16)) (f0 (n % UInt64.ofNat 1000000 + UInt64.ofNat 16))) (f0 (n % UInt64.ofNat 1000000 + UInt64.ofNat 16))) (f0 (4 : UInt64)))).fst, inf := false }, true))))
                                    (.br ((f1 (f2 (f3 (f3 (f0 (n % UInt64.ofNat 1000000 + UInt64.ofNat 17)) (f0 (n % UInt64.ofNat 1000000 + UInt64.ofNat 17))) (f0 (n % UInt64.ofNat 1000000 + UInt64.ofNat 17))) (f0 (4 : UInt64)))).snd)
                                      (.leaf (some (({ x := f0 (n % UInt64.ofNat 1000000 + UInt64.ofNat 17), y := (f1 (f2 (f3 (f3 (f0 (n % UInt64.ofNat 1000000 + UInt64.ofNat 17)) (f0 (n % UInt64.ofNat 1000000 + UInt64.ofNat 17))) (f0 (n % UInt64.ofNat 1000000 + UInt64.ofNat 17))) (f0 (4 : UInt64)))).fst, inf := false }, true))))
                                      (.br ((f1 (f2 (f3 (f3 (f0 (n % UInt64.ofNat 1000000 + UInt64.ofNat 18)) (f0 (n % UInt64.ofNat 1000000 + UInt64.ofNat 18))) (f0 (n % UInt64.ofNat 1000000 + UInt64.ofNat 18))) (f0 (4 : UInt64)))).snd)
                                        (.leaf (some (({ x := f0 (n % UInt64.ofNat 1000000 + UInt64.ofNat 18), y := (f1 (f2 (f3 (f3 (f0 (n % UInt64.ofNat 1000000 + UInt64.ofNat 18)) (f0 (n % UInt64.ofNat 1000000 + UInt64.ofNat 18))) (f0 (n % UInt64.ofNat 1000000 + UInt64.ofNat 18))) (f0 (4 : UInt64)))).fst, inf := false }, true))))
                                        (.br ((f1 (f2 (f3 (f3 (f0 (n % UInt64.ofNat 1000000 + UInt64.ofNat 19)) (f0 (n % UInt64.ofNat 1000000 + UInt64.ofNat 19))) (f0 (n % UInt64.ofNat 1000000 + UInt64.ofNat 19))) (f0 (4 : UInt64)))).snd)
                                          (.leaf (some (({ x := f0 (n % UInt64.ofNat 1000000 + UInt64.ofNat 19), y := (f1 (f2 (f3 (f3 (f0 (n % UInt64.ofNat 1000000 + UInt64.ofNat 19)) (f0 (n % UInt64.ofNat 1000000 + UInt64.ofNat 19))) (f0 (n % UInt64.ofNat 1000000 + UInt64.ofNat 19))) (f0 (4 : UInt64)))).fst, inf := false }, true))))
                                          (.leaf (some (({ x := zeroFp, y := zeroFp, inf := false }, false))))))))))))))))))))))))
theorem out8_run (f0 : UInt64 → Fp) (f1 : Fp → Fp × Bool) (f2 : Fp → Fp → Fp) (f3 : Fp → Fp → Fp) (n : UInt64) : plainRun (En [(63, Kof f0), (64, Ksqrt f1), (65, Kff f2), (66, Kff f3)]) ((kRow Pg1).rs2 kBool) 300 Tryz.f28 [.one (kU64.av n)] = out8_T f0 f1 f2 f3 n := by kernel_rfl
theorem out8_sat (f0 : UInt64 → Fp) (f1 : Fp → Fp × Bool) (f2 : Fp → Fp → Fp) (f3 : Fp → Fp → Fp) (n : UInt64) : (out8_T f0 f1 f2 f3 n).sat fun q => q = some (out8_G f0 f1 f2 f3 n) := ⟨fun h0 => (show some _ = some _ from congrArg some (by unfold out8_G; rw [h0])), fun h0 => ⟨fun h1 => (show some _ = some _ from congrArg some (by unfold out8_G; rw [h0, h1])), fun h1 => ⟨fun h2 => (show some _ = some _ from congrArg some (by unfold out8_G; rw [h0, h1, h2])), fun h2 => ⟨fun h3 => (show some _ = some _ from congrArg some (by unfold out8_G; rw [h0, h1, h2, h3])), fun h3 => ⟨fun h4 => (show some _ = some _ from congrArg some (by unfold out8_G; rw [h0, h1, h2, h3, h4])), fun h4 => ⟨fun h5 => (show some _ = some _ from congrArg some (by unfold out8_G; rw [h0, h1, h2, h3, h4, h5])), fun h5 => ⟨fun h6 => (show some _ = some _ from congrArg some (by unfold out8_G; rw [h0, h1, h2, h3, h4, h5, h6])), fun h6 => ⟨fun h7 => (show some _ = some _ from congrArg some (by unfold out8_G; rw [h0, h1, h2, h3, h4, h5, h6, h7])), fun h7 => ⟨fun h8 => (show some _ = some _ from congrArg some (by unfold out8_G; rw [h0, h1, h2, h3, h4, h5, h6, h7, h8])), fun h8 => ⟨fun h9 => (show some _ = some _ from congrArg some (by unfold out8_G; rw [h0, h1, h2, h3, h4, h5, h6, h7, h8, h9])), fun h9 => ⟨fun h10 => (show some _ = some _ from congrArg some (by unfold out8_G; rw [h0, h1, h2, h3, h4, h5, h6, h7, h8, h9, h10])), fun h10 => ⟨fun h11 => (show some _ = some _ from congrArg some (by unfold out8_G; rw [h0, h1, h2, h3, h4, h5, h6, h7, h8, h9, h10, h11])), fun h11 => ⟨fun h12 => (show some _ = some _ from congrArg some (by unfold out8_G; rw [h0, h1, h2, h3, h4, h5, h6, h7, h8, h9, h10, h11, h12])), fun h12 => ⟨fun h13 => (show some _ = some _ from congrArg some (by unfold out8_G; rw [h0, h1, h2, h3, h4, h5, h6, h7, h8, h9, h10, h11, h12, h13])), fun h13 => ⟨fun h14 => (show some _ = some _ from congrArg some (by unfold out8_G; rw [h0, h1, h2, h3, h4, h5, h6, h7, h8, h9, h10, h11, h12, h13, h14])), fun h14 => ⟨fun h15 => (show some _ = some _ from congrArg some (by unfold out8_G; rw [h0, h1, h2, h3, h4, h5, h6, h7, h8, h9, h10, h11, h12, h13, h14, h15])), fun h15 => ⟨fun h16 => (show some _ = some _ from congrArg some (by unfold out8_G; rw [h0, h1, h2, h3, h4, h5, h6, h7, h8, h9, h10, h11, h12, h13, h14, h15, h16])), fun h16 => ⟨fun h17 => (show some _ = some _ from congrArg some (by unfold out8_G; rw [h0, h1, h2, h3, h4, h5, h6, h7, h8, h9, h10, h11, h12, h13, h14, h15, h16, h17])), fun h17 => ⟨fun h18 => (show some _ = some _ from congrArg some (by unfold out8_G; rw [h0, h1, h2, h3, h4, h5, h6, h7, h8, h9, h10, h11, h12, h13, h14, h15, h16, h17, h18])), fun h18 => ⟨fun h19 => (show some _ = some _ from congrArg some (by unfold out8_G; rw [h0, h1, h2, h3, h4, h5, h6, h7, h8, h9, h10, h11, h12, h13, h14, h15, h16, h17, h18, h19])), fun h19 => (show some _ = some _ from congrArg some (by unfold out8_G; rw [h0, h1, h2, h3, h4, h5, h6, h7, h8, h9, h10, h11, h12, h13, h14, h15, h16, h17, h18, h19]))⟩⟩⟩⟩⟩⟩⟩⟩⟩⟩⟩⟩⟩⟩⟩⟩⟩⟩⟩⟩
def out8 (n : UInt64) : Pg1 × Bool := out8_G ofF sqrtPF addPF mulPF n
theorem out8_ok : CallOk Tryz.prog 28 (K1 kU64.arg ((kRow Pg1).rs2 kBool).res out8) :=
  P1 (En_ok (.cons ofP_ok (.cons sqrtP_ok (.cons addP_ok (.cons mulP_ok .nil))))) Tryz.func28 (bodied Tryz.func28 (by kernel_rfl) (by kernel_rfl)) 300 kU64 ((kRow Pg1).rs2 kBool) out8 (out8_run ofF sqrtPF addPF mulPF) (out8_sat ofF sqrtPF addPF mulPF)
def out9_G (f0 : UInt64 → Fp) (f1 : Fp2 → Fp2 × Bool) (f2 : Fp2 → Fp2 → Fp2) (f3 : Fp2 → Fp2 → Fp2) (n : UInt64) : Pg2 × Bool := (match ((f1 (f2 (f3 (f3 { c0 := f0 (n % UInt64.ofNat 1000 + UInt64.ofNat 0), c1 := f0 (n / UInt64.ofNat 1000 % UInt64.ofNat 1000) } { c0 := f0 (n % UInt64.ofNat 1000 + UInt64.ofNat 0), c1 := f0 (n / UInt64.ofNat 1000 % UInt64.ofNat 1000) }) { c0 := f0 (n % UInt64.ofNat 1000 + UInt64.ofNat 0), c1 := f0 (n / UInt64.ofNat 1000 % UInt64.ofNat 1000) }) { c0 := { l0 := UInt64.ofNat 4, l1 := UInt64.ofNat 0, l2 := UInt64.ofNat 0, l3 := UInt64.ofNat 0, l4 := UInt64.ofNat 0, l5 := UInt64.ofNat 0 }, c1 := { l0 := UInt64.ofNat 4, l1 := UInt64.ofNat 0, l2 := UInt64.ofNat 0, l3 := UInt64.ofNat 0, l4 := UInt64.ofNat 0, l5 := UInt64.ofNat 0 } })).snd) with | true => (({ x := { c0 := f0 (n % UInt64.ofNat 1000 + UInt64.ofNat 0), c1 := f0 (n / UInt64.ofNat 1000 % UInt64.ofNat 1000) }, y := (f1 (f2 (f3 (f3 { c0 := f0 (n % UInt64.ofNat 1000 + UInt64.ofNat 0), c1 := f0 (n / UInt64.ofNat 1000 % UInt64.ofNat 1000) } { c0 := f0 (n % UInt64.ofNat 1000 + UInt64.ofNat 0), c1 := f0 (n / UInt64.ofNat 1000 % UInt64.ofNat 1000) }) { c0 := f0 (n % UInt64.ofNat 1000 + UInt64.ofNat 0), c1 := f0 (n / UInt64.ofNat 1000 % UInt64.ofNat 1000) }) { c0 := { l0 := UInt64.ofNat 4, l1 := UInt64.ofNat 0, l2 := UInt64.ofNat 0, l3 := UInt64.ofNat 0, l4 := UInt64.ofNat 0, l5 := UInt64.ofNat 0 }, c1 := { l0 := UInt64.ofNat 4, l1 := UInt64.ofNat 0, l2 := UInt64.ofNat 0, l3 := UInt64.ofNat 0, l4 := UInt64.ofNat 0, l5 := UInt64.ofNat 0 } })).fst, inf := false }, true)) | false => (match ((f1 (f2 (f3 (f3 { c0 := f0 (n % UInt64.ofNat 1000 + UInt64.ofNat 1), c1 := f0 (n / UInt64.ofNat 1000 % UInt64.ofNat 1000) } { c0 := f0 (n % UInt64.ofNat 1000 + UInt64.ofNat 1), c1 := f0 (n / UInt64.ofNat 1000 % UInt64.ofNat 1000) }) { c0 := f0 (n % UInt64.ofNat 1000 + UInt64.ofNat 1), c1 := f0 (n / UInt64.ofNat 1000 % UInt64.ofNat 1000) }) { c0 := { l0 := UInt64.ofNat 4, l1 := UInt64.ofNat 0, l2 := UInt64.ofNat 0, l3 := UInt64.ofNat 0, l4 := UInt64.ofNat 0, l5 := UInt64.ofNat 0 }, c1 := { l0 := UInt64.ofNat 4, l1 := UInt64.ofNat 0, l2 := UInt64.ofNat 0, l3 := UInt64.ofNat 0, l4 := UInt64.ofNat 0, l5 := UInt64.ofNat 0 } })).snd) with | true => (({ x := { c0 := f0 (n % UInt64.ofNat 1000 + UInt64.ofNat 1), c1 := f0 (n / UInt64.ofNat 1000 % UInt64.ofNat 1000) }, y := (f1 (f2 (f3 (f3 { c0 := f0 (n % UInt64.ofNat 1000 + UInt64.ofNat 1), c1 := f0 (n / UInt64.ofNat 1000 % UInt64.ofNat 1000) } { c0 := f0 (n % UInt64.ofNat 1000 + UInt64.ofNat 1), c1 := f0 (n / UInt64.ofNat 1000 % UInt64.ofNat 1000) }) { c0 := f0 (n % UInt64.ofNat 1000 + UInt64.ofNat 1), c1 := f0 (n / UInt64.ofNat 1000 % UInt64.ofNat 1000) }) { c0 := { l0 := UInt64.ofNat 4, l1 := UInt64.ofNat 0, l2 := UInt64.ofNat 0, l3 := UInt64.ofNat 0, l4 := UInt64.ofNat 0, l5 := UInt64.ofNat 0 }, c1 := { l0 := UInt64.ofNat 4, l1 := UInt64.ofNat 0, l2 := UInt64.ofNat 0, l3 := UInt64.ofNat 0, l4 := UInt64.ofNat 0, l5 := UInt64.ofNat 0 } })).fst, inf := false }, true)) | false => (match ((f1 (f2 (f3 (f3 { c0 := f0 (n % UInt64.ofNat 1000 + UInt64.ofNat 2), c1 := f0 (n / UInt64.ofNat 1000 % UInt64.ofNat 1000) } { c0 := f0 (n % UInt64.ofNat 1000 + UInt64.ofNat 2), c1 := f0 (n / UInt64.ofNat 1000 % UInt64.ofNat 1000) }) { c0 := f0 (n % UInt64.ofNat 1000 + UInt64.ofNat 2), c1 := f0 (n / UInt64.ofNat 1000 % UInt64.ofNat 1000) }) { c0 := { l0 := UInt64.ofNat 4, l1 := UInt64.ofNat 0, l2 := UInt64.ofNat 0, l3 := UInt64.ofNat 0, l4 := UInt64.ofNat 0, l5 := UInt64.ofNat 0 }, c1 := { l0 := UInt64.ofNat 4, l1 := UInt64.ofNat 0, l2 := UInt64.ofNat 0, l3 := UInt64.ofNat 0, l4 := UInt64.ofNat 0, l5 := UInt64.ofNat 0 } })).snd) with | true => (({ x := { c0 := f0 (n % UInt64.ofNat 1000 + UInt64.ofNat 2), c1 := f0 (n / UInt64.ofNat 1000 % UInt64.ofNat 1000) }, y := (f1 (f2 (f3 (f3 { c0 := f0 (n % UInt64.ofNat 1000 + UInt64.ofNat 2), c1 := f0 (n / UInt64.ofNat 1000 % UInt64.ofNat 1000) } { c0 := f0 (n % UInt64.ofNat 1000 + UInt64.ofNat 2), c1 := f0 (n / UInt64.ofNat 1000 % UInt64.ofNat 1000) }) { c0 := f0 (n % UInt64.ofNat 1000 + UInt64.ofNat 2), c1 := f0 (n / UInt64.ofNat 1000 % UInt64.ofNat 1000) }) { c0 := { l0 := UInt64.ofNat 4, l1 := UInt64.ofNat 0, l2 := UInt64.ofNat 0, l3 := UInt64.ofNat 0, l4 := UInt64.ofNat 0, l5 := UInt64.ofNat 0 }, c1 := { l0 := UInt64.ofNat 4, l1 := UInt64.ofNat 0, l2 := UInt64.ofNat 0, l3 := UInt64.ofNat 0, l4 := UInt64.ofNat 0, l5 := UInt64.ofNat 0 } })).fst, inf := false }, true)) | false => (match ((f1 (f2 (f3 (f3 { c0 := f0 (n % UInt64.ofNat 1000 + UInt64.ofNat 3), c1 := f0 (n / UInt64.ofNat 1000 % UInt64.ofNat 1000) } { c0 := f0 (n % UInt64.ofNat 1000 + UInt64.ofNat 3), c1 := f0 (n / UInt64.ofNat 1000 % UInt64.ofNat 1000) }) { c0 := f0 (n % UInt64.ofNat 1000 + UInt64.ofNat 3), c1 := f0 (n / UInt64.ofNat 1000 % UInt64.ofNat 1000) }) { c0 := { l0 := UInt64.ofNat 4, l1 := UInt64.ofNat 0, l2 := UInt64.ofNat 0, l3 := UInt64.ofNat 0, l4 := UInt64.ofNat 0, l5 := UInt64.ofNat 0 }, c1 := { l0 := UInt64.ofNat 4, l1 := UInt64.ofNat 0, l2 := UInt64.ofNat 0, l3 := UInt64.ofNat 0, l4 := UInt64.ofNat 0, l5 := UInt64.ofNat 0 } })).snd) with | true => (({ x := { c0 := f0 (n % UInt64.ofNat 1000 + UInt64.ofNat 3), c1 := f0 (n / UInt64.ofNat 1000 % UInt64.ofNat 1000) }, y := (f1 (f2 (f3 (f3 { c0 := f0 (n % UInt64.ofNat 1000 + UInt64.ofNat 3), c1 := f0 (n / UInt64.ofNat 1000 % UInt64.ofNat 1000) } { c0 := f0 (n % UInt64.ofNat 1000 + UInt64.ofNat 3), c1 := f0 (n / UInt64.ofNat 1000 % UInt64.ofNat 1000) }) { c0 := f0 (n % UInt64.ofNat 1000 + UInt64.ofNat 3), c1 := f0 (n / UInt64.ofNat 1000 % UInt64.ofNat 1000) }) { c0 := { l0 := UInt64.ofNat 4, l1 := UInt64.ofNat 0, l2 := UInt64.ofNat 0, l3 := UInt64.ofNat 0, l4 := UInt64.ofNat 0, l5 := UInt64.ofNat 0 }, c1 := { l0 := UInt64.ofNat 4, l1 := UInt64.ofNat 0, l2 := UInt64.ofNat 0, l3 := UInt64.ofNat 0, l4 := UInt64.ofNat 0, l5 := UInt64.ofNat 0 } })).fst, inf := false }, true)) | false => (match ((f1 (f2 (f3 (f3 { c0 := f0 (n % UInt64.ofNat 1000 + UInt64.ofNat 4), c1 := f0 (n / UInt64.ofNat 1000 % UInt64.ofNat 1000) } { c0 := f0 (n % UInt64.ofNat 1000 + UInt64.ofNat 4), c1 := f0 (n / UInt64.ofNat 1000 % UInt64.ofNat 1000) }) { c0 := f0 (n % UInt64.ofNat 1000 + UInt64.ofNat 4), c1 := f0 (n / UInt64.ofNat 1000 % UInt64.ofNat 1000) }) { c0 := { l0 := UInt64.ofNat 4, l1 := UInt64.ofNat 0, l2 := UInt64.ofNat 0, l3 := UInt64.ofNat 0, l4 := UInt64.ofNat 0, l5 := UInt64.ofNat 0 }, c1 := { l0 := UInt64.ofNat 4, l1 := UInt64.ofNat 0, l2 := UInt64.ofNat 0, l3 := UInt64.ofNat 0, l4 := UInt64.ofNat 0, l5 := UInt64.ofNat 0 } })).snd) with | true => (({ x := { c0 := f0 (n % UInt64.ofNat 1000 + UInt64.ofNat 4), c1 := f0 (n / UInt64.ofNat 1000 % UInt64.ofNat 1000) }, y := (f1 (f2 (f3 (f3 { c0 := f0 (n % UInt64.ofNat 1000 + UInt64.ofNat 4), c1 := f0 (n / UInt64.ofNat 1000 % UInt64.ofNat 1000) } { c0 := f0 (n % UInt64.ofNat 1000 + UInt64.ofNat 4), c1 := f0 (n / UInt64.ofNat 1000 % UInt64.ofNat 1000) }) { c0 := f0 (n % UInt64.ofNat 1000 + UInt64.ofNat 4), c1 := f0 (n / UInt64.ofNat 1000 % UInt64.ofNat 1000) }) { c0 := { l0 := UInt64.ofNat 4, l1 := UInt64.ofNat 0, l2 := UInt64.ofNat 0, l3 := UInt64.ofNat 0, l4 := UInt64.ofNat 0, l5 := UInt64.ofNat 0 }, c1 := { l0 := UInt64.ofNat 4, l1 := UInt64.ofNat 0, l2 := UInt64.ofNat 0, l3 := UInt64.ofNat 0, l4 := UInt64.ofNat 0, l5 := UInt64.ofNat 0 } })).fst, inf := false }, true)) | false => (match ((f1 (f2 (f3 (f3 { c0 := f0 (n % UInt64.ofNat 1000 + UInt64.ofNat 5), c1 := f0 (n / UInt64.ofNat 1000 % UInt64.ofNat 1000) } { c0 := f0 (n % UInt64.ofNat 1000 + UInt64.ofNat 5), c1 := f0 (n / UInt64.ofNat 1000 % UInt64.ofNat 1000) }) { c0 := f0 (n % UInt64.ofNat 1000 + UInt64.ofNat 5), c1 := f0 (n / UInt64.ofNat 1000 % UInt64.ofNat 1000) }) { c0 := { l0 := UInt64.ofNat 4, l1 := UInt64.ofNat 0, l2 := UInt64.ofNat 0, l3 := UInt64.ofNat 0, l4 := UInt64.ofNat 0, l5 := UInt64.ofNat 0 }, c1 := { l0 := UInt64.ofNat 4, l1 := UInt64.ofNat 0, l2 := UInt64.ofNat 0, l3 := UInt64.ofNat 0, l4 := UInt64.ofNat 0, l5 := UInt64.ofNat 0 } })).snd) with | true => (({ x := { c0 := f0 (n % UInt64.ofNat 1000 + UInt64.ofNat 5), c1 := f0 (n / UInt64.ofNat 1000 % UInt64.ofNat 1000) }, y := (f1 (f2 (f3 (f3 { c0 := f0 (n % UInt64.ofNat 1000 + UInt64.ofNat 5), c1 := f0 (n / UInt64.ofNat 1000 % UInt64.ofNat 1000) } { c0 := f0 (n % UInt64.ofNat 1000 + UInt64.ofNat 5), c1 := f0 (n / UInt64.ofNat 1000 % UInt64.ofNat 1000) }) { c0 := f0 (n % UInt64.ofNat 1000 + UInt64.ofNat 5), c1 := f0 (n / UInt64.ofNat 1000 % UInt64.ofNat 1000) }) { c0 := { l0 := UInt64.ofNat 4, l1 := UInt64.ofNat 0, l2 := UInt64.ofNat 0, l3 := UInt64.ofNat 0, l4 := UInt64.ofNat 0, l5 := UInt64.ofNat 0 }, c1 := { l0 := UInt64.ofNat 4, l1 := UInt64.ofNat 0, l2 := UInt64.ofNat 0, l3 := UInt64.ofNat 0, l4 := UInt64.ofNat 0, l5 := UInt64.ofNat 0 } })).fst, inf := false }, true)) | false => (match ((f1 (f2 (f3 (f3 { c0 := f0 (n % UInt64.ofNat 1000 + UInt64.ofNat 6), c1 := f0 (n / UInt64.ofNat 1000 % UInt64.ofNat 1000) } { c0 := f0 (n % UInt64.ofNat 1000 + UInt64.ofNat 6), c1 := f0 (n / UInt64.ofNat 1000 % UInt64.ofNat 1000) }) { c0 := f0 (n % UInt64.ofNat 1000 + UInt64.ofNat 6), c1 := f0 (n / UInt64.ofNat 1000 % UInt64.ofNat 1000) }) { c0 := { l0 := UInt64.ofNat 4, l1 := UInt64.ofNat 0, l2 := UInt64.ofNat 0, l3 := UInt64.ofNat 0, l4 := UInt64.ofNat 0, l5 := UInt64.ofNat 0 }, c1 := { l0 := UInt64.ofNat 4, l1 := UInt64.ofNat 0, l2 := UInt64.ofNat 0, l3 := UInt64.ofNat 0, l4 := UInt64.ofNat 0, l5 := UInt64.ofNat 0 } })).snd) with | true => (({ x := { c0 := f0 (n % UInt64.ofNat 1000 + UInt64.ofNat 6), c1 := f0 (n / UInt64.ofNat 1000 % UInt64.ofNat 1000) }, y := (f1 (f2 (f3 (f3 { c0 := f0 (n % UInt64.ofNat 1000 + UInt64.ofNat 6), c1 := f0 (n / UInt64.ofNat 1000 % UInt64.ofNat 1000) } { c0 := f0 (n % UInt64.ofNat 1000 + UInt64.ofNat 6), c1 := f0 (n / UInt64.ofNat 1000 % UInt64.ofNat 1000) }) { c0 := f0 (n % UInt64.ofNat 1000 + UInt64.ofNat 6), c1 := f0 (n / UInt64.ofNat 1000 % UInt64.ofNat 1000) }) { c0 := { l0 := UInt64.ofNat 4, l1 := UInt64.ofNat 0, l2 := UInt64.ofNat 0, l3 := UInt64.ofNat 0, l4 := UInt64.ofNat 0, l5 := UInt64.ofNat 0 }, c1 := { l0 := UInt64.ofNat 4, l1 := UInt64.ofNat 0, l2 := UInt64.ofNat 0, l3 := UInt64.ofNat 0, l4 := UInt64.ofNat 0, l5 := UInt64.ofNat 0 } })).fst, inf := false }, true)) | false => (match ((f1 (f2 (f3 (f3 { c0 := f0 (n % UInt64.ofNat 1000 + UInt64.ofNat 7), c1 := f0 (n / UInt64.ofNat 1000 % UInt64.ofNat 1000) } { c0 := f0 (n % UInt64.ofNat 1000 + UInt64.ofNat 7), c1 := f0 (n / UInt64.ofNat 1000 % UInt64.ofNat 1000) }) { c0 := f0 (n % UInt64.ofNat 1000 + UInt64.ofNat 7), c1 := f0 (n / UInt64.ofNat 1000 % UInt64.ofNat 1000) }) { c0 := { l0 := UInt64.ofNat 4, l1 := UInt64.ofNat 0, l2 := UInt64.ofNat 0, l3 := UInt64.ofNat 0, l4 := UInt64.ofNat 0, l5 := UInt64.ofNat 0 }, c1 := { l0 := UInt64.ofNat 4, l1 := UInt64.ofNat 0, l2 := UInt64.ofNat 0, l3 := UInt64.ofNat 0, l4 := UInt64.ofNat 0, l5 := UInt64.ofNat 0 } })).snd) with | true => (({ x := { c0 := f0 (n % UInt64.ofNat 1000 + UInt64.ofNat 7), c1 := f0 (n / UInt64.ofNat 1000 % UInt64.ofNat 1000) }, y := (f1 (f2 (f3 (f3 { c0 := f0 (n % UInt64.ofNat 1000 + UInt64.ofNat 7), c1 := f0 (n / UInt64.ofNat 1000 % UInt64.ofNat 1000) } { c0 := f0 (n % UInt64.ofNat 1000 + UInt64.ofNat 7), c1 := f0 (n / UInt64.ofNat 1000 % UInt64.ofNat 1000) }) { c0 := f0 (n % UInt64.ofNat 1000 + UInt64.ofNat 7), c1 := f0 (n / UInt64.ofNat 1000 % UInt64.ofNat 1000) }) { c0 := { l0 := UInt64.ofNat 4, l1 := UInt64.ofNat 0, l2 := UInt64.ofNat 0, l3 := UInt64.ofNat 0, l4 := UInt64.ofNat 0, l5 := UInt64.ofNat 0 }, c1 := { l0 := UInt64.ofNat 4, l1 := UInt64.ofNat 0, l2 := UInt64.ofNat 0, l3 := UInt64.ofNat 0, l4 := UInt64.ofNat 0, l5 := UInt64.ofNat 0 } })).fst, inf := false }, true)) | false => (match ((f1 (f2 (f3 (f3 { c0 := f0 (n % UInt64.ofNat 1000 + UInt64.ofNat 8), c1 := f0 (n / UInt64.ofNat 1000 % UInt64.ofNat 1000) } { c0 := f0 (n % UInt64.ofNat 1000 + UInt64.ofNat 8), c1 := f0 (n / UInt64.ofNat 1000 % UInt64.ofNat 1000) }) { c0 := f0 (n % UInt64.ofNat 1000 + UInt64.ofNat 8), c1 := f0 (n / UInt64.ofNat 1000 % UInt64.ofNat 1000) }) { c0 := { l0 := UInt64.ofNat 4, l1 := UInt64.ofNat 0, l2 := UInt64.ofNat 0, l3 := UInt64.ofNat 0, l4 := UInt64.ofNat 0, l5 := UInt64.ofNat 0 }, c1 := { l0 := UInt64.ofNat 4, l1 := UInt64.ofNat 0, l2 := UInt64.ofNat 0, l3 := UInt64.ofNat 0, l4 := UInt64.ofNat 0, l5 := UInt64.ofNat 0 } })).snd) with | true => (({ x := { c0 := f0 (n % UInt64.ofNat 1000 + UInt64.ofNat 8), c1 := f0 (n / UInt64.ofNat 1000 % UInt64.ofNat 1000) }, y := (f1 (f2 (f3 (f3 { c0 := f0 (n % UInt64.ofNat 1000 + UInt64.ofNat 8), c1 := f0 (n / UInt64.ofNat 1000 % UInt64.ofNat 1000) } { c0 := f0 (n % UInt64.ofNat 1000 + UInt64.ofNat 8), c1 := f0 (n / UInt64.ofNat 1000 % UInt64.ofNat 1000) }) { c0 := f0 (n % UInt64.ofNat 1000 + UInt64.ofNat 8), c1 := f0 (n / UInt64.ofNat 1000 % UInt64.ofNat 1000) }) { c0 := { l0 := UInt64.ofNat 4, l1 := UInt64.ofNat 0, l2 := UInt64.ofNat 0, l3 := UInt64.ofNat 0, l4 := UInt64.ofNat 0, l5 := UInt64.ofNat 0 }, c1 := { l0 := UInt64.ofNat 4, l1 := UInt64.ofNat 0, l2 := UInt64.ofNat 0, l3 := UInt64.ofNat 0, l4 := UInt64.ofNat 0, l5 := UInt64.ofNat 0 } })).fst, inf := false }, true)) | false => (match ((f1 (f2 (f3 (f3 { c0 := f0 (n % UInt64.ofNat 1000 + UInt64.ofNat 9), c1 := f0 (n / UInt64.ofNat 1000 % UInt64.ofNat 1000) } { c0 := f0 (n % UInt64.ofNat 1000 + UInt64.ofNat 9), c1 := f0 (n / UInt64.ofNat 1000 % UInt64.ofNat 1000) }) { c0 := f0 (n % UInt64.ofNat 1000 + UInt64.ofNat 9), c1 := f0 (n / UInt64.ofNat 1000 % UInt64.ofNat 1000) }) { c0 := { l0 := UInt64.ofNat 4, l1 := UInt64.ofNat 0, l2 := UInt64.ofNat 0, l3 := UInt64.ofNat 0, l4 := UInt64.ofNat 0, l5 := UInt64.ofNat 0 }, c1 := { l0 := UInt64.ofNat 4, l1 := UInt64.ofNat 0, l2 := UInt64.ofNat 0, l3 := UInt64.ofNat 0, l4 := UInt64.ofNat 0, l5 := UInt64.ofNat 0 } })).snd) with | true => (({ x := { c0 := f0 (n % UInt64.ofNat 1000 + UInt64.ofNat 9), c1 := f0 (n / UInt64.ofNat 1000 % UInt64.ofNat 1000) }, y := (f1 (f2 (f3 (f3 { c0 := f0 (n % UInt64.ofNat 1000 + UInt64.ofNat 9), c1 := f0 (n / UInt64.ofNat 1000 % UInt64.ofNat 1000) } { c0 := f0 (n % UInt64.ofNat 1000 + UInt64.ofNat 9), c1 := f0 (n / UInt64.ofNat 1000 % UInt64.ofNat 1000) }) { c0 := f0 (n % UInt64.ofNat 1000 + UInt64.ofNat 9), c1 := f0 (n / UInt64.ofNat 1000 % UInt64.ofNat 1000) }) { c0 := { l0 := UInt64.ofNat 4, l1 := UInt64.ofNat 0, l2 := UInt64.ofNat 0, l3 := UInt64.ofNat 0, l4 := UInt64.ofNat 0, l5 := UInt64.ofNat 0 }, c1 := { l0 := UInt64.ofNat 4, l1 := UInt64.ofNat 0, l2 := UInt64.ofNat 0, l3 := UInt64.ofNat 0, l4 := UInt64.ofNat 0, l5 := UInt64.ofNat 0 } })).fst, inf := false }, true)) | false => (match ((f1 (f2 (f3 (f3 { c0 := f0 (n % UInt64.ofNat 1000 + UInt64.ofNat 10), c1 := f0 (n / UInt64.ofNat 1000 % UInt64.ofNat 1000) } { c0 := f0 (n % UInt64.ofNat 1000 + UInt64.ofNat 10), c1 := f0 (n / UInt64.ofNat 1000 % UInt64.ofNat 1000) }) { c0 := f0 (n % UInt64.ofNat 1000 + UInt64.ofNat 10), c1 := f0 (n / UInt64.ofNat 1000 % UInt64.ofNat 1000) }) { c0 := { l0 := UInt64.ofNat 4, l1 := UInt64.ofNat 0, l2 := UInt64.ofNat 0, l3 := UInt64.ofNat 0, l4 := UInt64.ofNat 0, l5 := UInt64.ofNat 0 }, c1 := { l0 := UInt64.ofNat 4, l1 := UInt64.ofNat 0, l2 := UInt64.ofNat 0, l3 := UInt64.ofNat 0, l4 := UInt64.ofNat 0, l5 := UInt64.ofNat 0 } })).snd) with | true => (({ x := { c0 := f0 (n % UInt64.ofNat 1000 + UInt64.ofNat 10), c1 := f0 (n / UInt64.ofNat 1000 % UInt64.ofNat 1000) }, y := (f1 (f2 (f3 (f3 { c0 := f0 (n % UInt64.ofNat 1000 + UInt64.ofNat 10), c1 := f0 (n / UInt64.ofNat 1000 % UInt64.ofNat 1000) } { c0 := f0 (n % UInt64.ofNat 1000 + UInt64.ofNat 10), c1 := f0 (n / UInt64.ofNat 1000 % UInt64.ofNat 1000) }) { c0 := f0 (n % UInt64.ofNat 1000 + UInt64.ofNat 10), c1 := f0 (n / UInt64.ofNat 1000 % UInt64.ofNat 1000) }) { c0 := { l0 := UInt64.ofNat 4, l1 := UInt64.ofNat 0, l2 := UInt64.ofNat 0, l3 := UInt64.ofNat 0, l4 := UInt64.ofNat 0, l5 := UInt64.ofNat 0 }, c1 := { l0 := UInt64.ofNat 4, l1 := UInt64.ofNat 0, l2 := UInt64.ofNat 0, l3 := UInt64.ofNat 0, l4 := UInt64.ofNat 0, l5 := UInt64.ofNat 0 } })).fst, inf := false }, true)) | false => (match ((f1 (f2 (f3 (f3 { c0 := f0 (n % UInt64.ofNat 1000 + UInt64.ofNat 11), c1 := f0 (n / UInt64.ofNat 1000 % UInt64.ofNat 1000) } { c0 := f0 (n % UInt64.ofNat 1000 + UInt64.ofNat 11), c1 := f0 (n / UInt64.ofNat 1000 % UInt64.ofNat 1000) }) { c0 := f0 (n % UInt64.ofNat 1000 + UInt64.ofNat 11), c1 := f0 (n / UInt64.ofNat 1000 % UInt64.ofNat 1000) }) { c0 := { l0 := UInt64.ofNat 4, l1 := UInt64.ofNat 0, l2 := UInt64.ofNat 0, l3 := UInt64.ofNat 0, l4 := UInt64.ofNat 0, l5 := UInt64.ofNat 0 }, c1 := { l0 := UInt64.ofNat 4, l1 := UInt64.ofNat 0, l2 := UInt64.ofNat 0, l3 := UInt64.ofNat 0, l4 := UInt64.ofNat 0, l5 := UInt64.ofNat 0 } })).snd) with | true => (({ x := { c0 := f0 (n % UInt64.ofNat 1000 + UInt64.ofNat 11), c1 := f0 (n / UInt64.ofNat 1000 % UInt64.ofNat 1000) }, y := (f1 (f2 (f3 (f3 { c0 := f0 (n % UInt64.ofNat 1000 + UInt64.ofNat 11), c1 := f0 (n / UInt64.ofNat 1000 % UInt64.ofNat 1000) } { c0 := f0 (n % UInt64.ofNat 1000 + UInt64.ofNat 11), c1 := f0 (n / UInt64.ofNat 1000 % UInt64.ofNat 1000) }) { c0 := f0 (n % UInt64.ofNat 1000 + UInt64.ofNat 11), c1 := f0 (n / UInt64.ofNat 1000 % UInt64.ofNat 1000) }) { c0 := { l0 := UInt64.ofNat 4, l1 := UInt64.ofNat 0, l2 := UInt64.ofNat 0, l3 := UInt64.ofNat 0, l4 := UInt64.ofNat 0, l5 := UInt64.ofNat 0 }, c1 := { l0 := UInt64.ofNat 4, l1 := UInt64.ofNat 0, l2 := UInt64.ofNat 0, l3 := UInt64.ofNat 0, l4 := UInt64.ofNat 0, l5 := UInt64.ofNat 0 } })).fst, inf := false }, true)) | false => (match ((f1 (f2 (f3 (f3 { c0 := f0 (n % UInt64.ofNat 1000 + UInt64.ofNat 12), c1 := f0 (n / UInt64.ofNat 1000 % UInt64.ofNat 1000) } { c0 := f0 (n % UInt64.ofNat 1000 + UInt64.ofNat 12), c1 := f0 (n / UInt64.ofNat 1000 % UInt64.ofNat 1000) }) { c0 := f0 (n % UInt64.ofNat 1000 + UInt64.ofNat 12), c1 := f0 (n / UInt64.ofNat 1000 % UInt64.ofNat 1000) }) { c0 := { l0 := UInt64.ofNat 4, l1 := UInt64.ofNat 0, l2 := UInt64.ofNat 0, l3 := UInt64.ofNat 0, l4 := UInt64.ofNat 0, l5 := UInt64.ofNat 0 }, c1 := { l0 := UInt64.ofNat 4, l1 := UInt64.ofNat 0, l2 := UInt64.ofNat 0, l3 := UInt64.ofNat 0, l4 := UInt64.ofNat 0, l5 := UInt64.ofNat 0 } })).snd) with | true => (({ x := { c0 := f0 (n % UInt64.ofNat 1000 + UInt64.ofNat 12), c1 := f0 (n / UInt64.ofNat 1000 % UInt64.ofNat 1000) }, y := (f1 (f2 (f3 (f3 { c0 := f0 (n % UInt64.ofNat 1000 + UInt64.ofNat 12), c1 := f0 (n / UInt64.ofNat 1000 % UInt64.ofNat 1000) } { c0 := f0 (n % UInt64.ofNat 1000 + UInt64.ofNat 12), c1 := f0 (n / UInt64.ofNat 1000 % UInt64.ofNat 1000) }) { c0 := f0 (n % UInt64.ofNat 1000 + UInt64.ofNat 12), c1 := f0 (n / UInt64.ofNat 1000 % UInt64.ofNat 1000) }) { c0 := { l0 := UInt64.ofNat 4, l1 := UInt64.ofNat 0, l2 := UInt64.ofNat 0, l3 := UInt64.ofNat 0, l4 := UInt64.ofNat 0, l5 := UInt64.ofNat 0 }, c1 := { l0 := UInt64.ofNat 4, l1 := UInt64.ofNat 0, l2 := UInt64.ofNat 0, l3 := UInt64.ofNat 0, l4 := UInt64.ofNat 0, l5 := UInt64.ofNat 0 } })).fst, inf := false }, true)) | false => (match ((f1 (f2 (f3 (f3 { c0 := f0 (n % UInt64.ofNat 1000 + UInt64.ofNat 13), c1 := f0 (n / UInt64.ofNat 1000 % UInt64.ofNat 1000) } { c0 := f0 (n % UInt64.ofNat 1000 + UInt64.ofNat 13), c1 := f0 (n / UInt64.ofNat 1000 % UInt64.ofNat 1000) }) { c0 := f0 (n % UInt64.ofNat 1000 + UInt64.ofNat 13), c1 := f0 (n / UInt64.ofNat 1000 % UInt64.ofNat 1000) }) { c0 := { l0 := UInt64.ofNat 4, l1 := UInt64.ofNat 0, l2 := UInt64.ofNat 0, l3 := UInt64.ofNat 0, l4 := UInt64.ofNat 0, l5 := UInt64.ofNat 0 }, c1 := { l0 := UInt64.ofNat 4, l1 := UInt64.ofNat 0, l2 := UInt64.ofNat 0, l3 := UInt64.ofNat 0, l4 := UInt64.ofNat 0, l5 := UInt64.ofNat 0 } })).snd) with | true => (({ x := { c0 := f0 (n % UInt64.ofNat 1000 + UInt64.ofNat 13), c1 := f0 (n / UInt64.ofNat 1000 % UInt64.ofNat 1000) }, y := (f1 (f2 (f3 (f3 { c0 := f0 (n % UInt64.ofNat 1000 + UInt64.ofNat 13), c1 := f0 (n / UInt64.ofNat 1000 % UInt64.ofNat 1000) } { c0 := f0 (n % UInt64.ofNat 1000 + UInt64.ofNat 13), c1 := f0 (n / UInt64.ofNat 1000 % UInt64.ofNat 1000) }) { c0 := f0 (n % UInt64.ofNat 1000 + UInt64.ofNat 13), c1 := f0 (n / UInt64.ofNat 1000 % UInt64.ofNat 1000) }) { c0 := { l0 := UInt64.ofNat 4, l1 := UInt64.ofNat 0, l2 := UInt64.ofNat 0, l3 := UInt64.ofNat 0, l4 := UInt64.ofNat 0, l5 := UInt64.ofNat 0 }, c1 := { l0 := UInt64.ofNat 4, l1 := UInt64.ofNat 0, l2 := UInt64.ofNat 0, l3 := UInt64.ofNat 0, l4 := UInt64.ofNat 0, l5 := UInt64.ofNat 0 } })).fst, inf := false }, true)) | false => (match ((f1 (f2 (f3 (f3 { c0 := f0 (n % UInt64.ofNat 1000 + UInt64.ofNat 14), c1 := f0 (n / UInt64.ofNat 1000 % UInt64.ofNat 1000) } { c0 := f0 (n % UInt64.ofNat 1000 + UInt64.ofNat 14), c1 := f0 (n / UInt64.ofNat 1000 % UInt64.ofNat 1000) }) { c0 := f0 (n % UInt64.ofNat 1000 + UInt64.ofNat 14), c1 := f0 (n / UInt64.ofNat 1000 % UInt64.ofNat 1000) }) { c0 := { l0 := UInt64.ofNat 4, l1 := UInt64.ofNat 0, l2 := UInt64.ofNat 0, l3 := UInt64.ofNat 0, l4 := UInt64.ofNat 0, l5 := UInt64.ofNat 0 }, c1 := { l0 := UInt64.ofNat 4, l1 := UInt64.ofNat 0, l2 := UInt64.ofNat 0, l3 := UInt64.ofNat 0, l4 := UInt64.ofNat 0, l5 := UInt64.ofNat 0 } })).snd) with | true => (({ x := { c0 := f0 (n % UInt64.ofNat 1000 + UInt64.ofNat 14), c1 := f0 (n / UInt64.ofNat 1000 % UInt64.ofNat 1000) }, y := (f1 (f2 (f3 (f3 { c0 := f0 (n % UInt64.ofNat 1000 + UInt64.ofNat 14), c1 := f0 (n / UInt64.ofNat 1000 % UInt64.ofNat 1000) } { c0 := f0 (n % UInt64.ofNat 1000 + UInt64.ofNat 14), c1 := f0 (n / UInt64.ofNat 1000 % UInt64.ofNat 1000) }) { c0 := f0 (n % UInt64.ofNat 1000 + UInt64.ofNat 14), c1 := f0 (n / UInt64.ofNat 1000 % UInt64.ofNat 1000) }) { c0 := { l0 := UInt64.ofNat 4, l1 := UInt64.ofNat 0, l2 := UInt64.ofNat 0, l3 := UInt64.ofNat 0, l4 := UInt64.ofNat 0, l5 := UInt64.ofNat 0 }, c1 := { l0 := UInt64.ofNat 4, l1 := UInt64.ofNat 0, l2 := UInt64.ofNat 0, l3 := UInt64.ofNat 0, l4 := UInt64.ofNat 0, l5 := UInt64.ofNat 0 } })).fst, inf := false }, true)) | false => (match ((f1 (f2 (f3 (f3 { c0 := f0 (n % UInt64.ofNat 1000 + UInt64.ofNat 15), c1 := f0 (n / UInt64.ofNat 1000 % UInt64.ofNat 1000) } { c0 := f0 (n % UInt64.ofNat 1000 + UInt64.ofNat 15), c1 := f0 (n / UInt64.ofNat 1000 % UInt64.ofNat 1000) }) { c0 := f0 (n % UInt64.ofNat 1000 + UInt64.ofNat 15), c1 := f0 (n / UInt64.ofNat 1000 % UInt64.ofNat 1000) }) { c0 := { l0 := UInt64.ofNat 4, l1 := UInt64.ofNat 0, l2 := UInt64.ofNat 0, l3 := UInt64.ofNat 0, l4 := UInt64.ofNat 0, l5 := UInt64.ofNat 0 }, c1 := { l0 := UInt64.ofNat 4, l1 := UInt64.ofNat 0, l2 := UInt64.ofNat 0, l3 := UInt64.ofNat 0, l4 := UInt64.ofNat 0, l5 := UInt64.ofNat 0 } })).snd) with | true => (({ x := { c0 := f0 (n % UInt64.ofNat 1000 + UInt64.ofNat 15), c1 := f0 (n / UInt64.ofNat 1000 % UInt64.ofNat 1000) }, y := (f1 (f2 (f3 (f3 { c0 := f0 (n % UInt64.ofNat 1000 + UInt64.ofNat 15), c1 := f0 (n / UInt64.ofNat 1000 % UInt64.ofNat 1000) } { c0 := f0 (n % UInt64.ofNat 1000 + UInt64.ofNat 15), c1 := f0 (n / UInt64.ofNat 1000 % UInt64.ofNat 1000) }) { c0 := f0 (n % UInt64.ofNat 1000 + UInt64.ofNat 15), c1 := f0 (n / UInt64.ofNat 1000 % UInt64.ofNat 1000) }) { c0 := { l0 := UInt64.ofNat 4, l1 := UInt64.ofNat 0, l2 := UInt64.ofNat 0, l3 := UInt64.ofNat 0, l4 := UInt64.ofNat 0, l5 := UInt64.ofNat 0 }, c1 := { l0 := UInt64.ofNat 4, l1 := UInt64.ofNat 0, l2 := UInt64.ofNat 0, l3 := UInt64.ofNat 0, l4 := UInt64.ofNat 0, l5 := UInt64.ofNat 0 } })).fst, inf := false }, true)) | false => (match ((f1 (f2 (f3 (f3 { c0 := f0 (n % UInt64.ofNat 1000 + UInt64.ofNat 16), c1 := f0 (n / UInt64.ofNat 1000 % UInt64.ofNat 1000) } { c0 := f0 (n % UInt64.ofNat 1000 + UInt64.ofNat 16), c1 := f0 (n / UInt64.ofNat 1000 % UInt64.ofNat 1000) }) { c0 := f0 (n % UInt64.ofNat 1000 + UInt64.ofNat 16), c1 := f0 (n / UInt64.ofNat 1000 % UInt64.ofNat 1000) }) { c0 := { l0 := UInt64.ofNat 4, l1 := UInt64.ofNat 0, l2 := UInt64.ofNat 0, l3 := UInt64.ofNat 0, l4 := UInt64.ofNat 0, l5 := UInt64.ofNat 0 }, c1 := { l0 := UInt64.ofNat 4, l1 := UInt64.ofNat 0, l2 := UInt64.ofNat 0, l3 := UInt64.ofNat 0, l4 := UInt64.ofNat 0, l5 := UInt64.ofNat 0 } })).snd) with | true => (({ x := { c0 := f0 (n % UInt64.ofNat 1000 + UInt64.ofNat 16), c1 := f0 (n / UInt64.ofNat 1000 % UInt64.ofNat 1000) }, y := (f1 (f2 (f3 (f3 { c0 := f0 (n % UInt64.ofNat 1000 + UInt64.ofNat 16), c1 := f0 (n / UInt64.ofNat 1000 % UInt64.ofNat 1000) } { c0 := f0 (n % UInt64.ofNat 1000 + UInt64.ofNat 16), c1 := f0 (n / UInt64.ofNat 1000 % UInt64.ofNat 1000) }) { c0 := f0 (n % UInt64.ofNat 1000 + UInt64.ofNat 16), c1 := f0 (n / UInt64.ofNat 1000 % UInt64.ofNat 1000) }) { c0 := { l0 := UInt64.ofNat 4, l1 := UInt64.ofNat 0, l2 := UInt64.ofNat 0, l3 := UInt64.ofNat 0, l4 := UInt64.ofNat 0, l5 := UInt64.ofNat 0 }, c1 := { l0 := UInt64.ofNat 4, l1 := UInt64.ofNat 0, l2 := UInt64.ofNat 0, l3 := UInt64.ofNat 0, l4 := UInt64.ofNat 0, l5 := UInt64.ofNat 0 } })).fst, inf := false }, true)) | false => (match ((f1 (f2 (f3 (f3 { c0 := f0 (n % UInt64.ofNat 1000 + UInt64.ofNat 17), c1 := f0 (n / UInt64.ofNat 1000 % UInt64.ofNat 1000) } { c0 := f0 (n % UInt64.ofNat 1000 + UInt64.ofNat 17), c1 := f0 (n / UInt64.ofNat 1000 % UInt64.ofNat 1000) }) { c0 := f0 (n % UInt64.ofNat 1000 + UInt64.ofNat 17), c1 := f0 (n / UInt64.ofNat 1000 % UInt64.ofNat 1000) }) { c0 := { l0 := UInt64.ofNat 4, l1 := UInt64.ofNat 0, l2 := UInt64.ofNat 0, l3 := UInt64.ofNat 0, l4 := UInt64.ofNat 0, l5 := UInt64.ofNat 0 }, c1 := { l0 := UInt64.ofNat 4, l1 := UInt64.ofNat 0, l2 := UInt64.ofNat 0, l3 := UInt64.ofNat 0, l4 := UInt64.ofNat 0, l5 := UInt64.ofNat 0 } })).snd) with | true => (({ x := { c0 := f0 (n % UInt64.ofNat 1000 + UInt64.ofNat 17), c1 := f0 (n / UInt64.ofNat 1000 % UInt64.ofNat 1000) }, y := (f1 (f2 (f3 (f3 { c0 := f0 (n % UInt64.ofNat 1000 + UInt64.ofNat 17), c1 := f0 (n / UInt64.ofNat 1000 % UInt64.ofNat 1000) } { c0 := f0 (n % UInt64.ofNat 1000 + UInt64.ofNat 17), c1 := f0 (n / UInt64.ofNat 1000 % UInt64.ofNat 1000) }) { c0 := f0 (n % UInt64.ofNat 1000 + UInt64.ofNat 17), c1 := f0 (n / UInt64.ofNat 1000 % UInt64.ofNat 1000) }) { c0 := { l0 := UInt64.ofNat 4, l1 := UInt64.ofNat 0, l2 := UInt64.ofNat 0, l3 := UInt64.ofNat 0, l4 := UInt64.ofNat 0, l5 := UInt64.ofNat 0 }, c1 := { l0 := UInt64.ofNat 4, l1 := UInt64.ofNat 0, l2 := UInt64.ofNat 0, l3 := UInt64.ofNat 0, l4 := UInt64.ofNat 0, l5 := UInt64.ofNat 0 } })).fst, inf := false }, true)) | false => (match ((f1 (f2 (f3 (f3 { c0 := f0 (n % UInt64.ofNat 1000 + UInt64.ofNat 18), c1 := f0 (n / UInt64.ofNat 1000 % UInt64.ofNat 1000) } { c0 := f0 (n % UInt64.ofNat 1000 + UInt64.ofNat 18), c1 := f0 (n / UInt64.ofNat 1000 % UInt64.ofNat 1000) }) { c0 := f0 (n % UInt64.ofNat 1000 + UInt64.ofNat 18), c1 := f0 (n / UInt64.ofNat 1000 % UInt64.ofNat 1000) }) { c0 := { l0 := UInt64.ofNat 4, l1 := UInt64.ofNat 0, l2 := UInt64.ofNat 0, l3 := UInt64.ofNat 0, l4 := UInt64.ofNat 0, l5 := UInt64.ofNat 0 }, c1 := { l0 := UInt64.ofNat 4, l1 := UInt64.ofNat 0, l2 := UInt64.ofNat 0, l3 := UInt64.ofNat 0, l4 := UInt64.ofNat 0, l5 := UInt64.ofNat 0 } })).snd) with | true => (({ x := { c0 := f0 (n % UInt64.ofNat 1000 + UInt64.ofNat 18), c1 := f0 (n / UInt64.ofNat 1000 % UInt64.ofNat 1000) }, y := (f1 (f2 (f3 (f3 { c0 := f0 (n % UInt64.ofNat 1000 + UInt64.ofNat 18), c1 := f0 (n / UInt64.ofNat 1000 % UInt64.ofNat 1000) } { c0 := f0 (n % UInt64.ofNat 1000 + UInt64.ofNat 18), c1 := f0 (n / UInt64.ofNat 1000 % UInt64.ofNat 1000) }) { c0 := f0 (n % UInt64.ofNat 1000 + UInt64.ofNat 18), c1 := f0 (n / UInt64.ofNat 1000 % UInt64.ofNat 1000) }) { c0 := { l0 := UInt64.ofNat 4, l1 := UInt64.ofNat 0, l2 := UInt64.ofNat 0, l3 := UInt64.ofNat 0, l4 := UInt64.ofNat 0, l5 := UInt64.ofNat 0 }, c1 := { l0 := UInt64.ofNat 4, l1 := UInt64.ofNat 0, l2 := UInt64.ofNat 0, l3 := UInt64.ofNat 0, l4 := UInt64.ofNat 0, l5 := UInt64.ofNat 0 } })).fst, inf := false }, true)) | false => (match ((f1 (f2 (f3 (f3 { c0 := f0 (n % UInt64.ofNat 1000 + UInt64.ofNat 19), c1 := f0 (n / UInt64.ofNat 1000 % UInt64.ofNat 1000) } { c0 := f0 (n % UInt64.ofNat 1000 + UInt64.ofNat 19), c1 := f0 (n / UInt64.ofNat 1000 % UInt64.ofNat 1000) }) { c0 := f0 (n % UInt64.ofNat 1000 + UInt64.ofNat 19), c1 := f0 (n / UInt64.ofNat 1000 % UInt64.ofNat 1000) }) { c0 := { l0 := UInt64.ofNat 4, l1 := UInt64.ofNat 0, l2 := UInt64.ofNat 0, l3 := UInt64.ofNat 0, l4 := UInt64.ofNat 0, l5 := UInt64.ofNat 0 }, c1 := { l0 := UInt64.ofNat 4, l1 := UInt64.ofNat 0, l2 := UInt64.ofNat 0, l3 := UInt64.ofNat 0, l4 := UInt64.ofNat 0, l5 := UInt64.ofNat 0 } })).snd) with | true => (({ x := { c0 := f0 (n % UInt64.ofNat 1000 + UInt64.ofNat 19), c1 := f0 (n / UInt64.ofNat 1000 % UInt64.ofNat 1000) }, y := (f1 (f2 (f3 (f3 { c0 := f0 (n % UInt64.ofNat 1000 + UInt64.ofNat 19), c1 := f0 (n / UInt64.ofNat 1000 % UInt64.ofNat 1000) } { c0 := f0 (n % UInt64.ofNat 1000 + UInt64.ofNat 19), c1 := f0 (n / UInt64.ofNat 1000 % UInt64.ofNat 1000) }) { c0 := f0 (n % UInt64.ofNat 1000 + UInt64.ofNat 19), c1 := f0 (n / UInt64.ofNat 1000 % UInt64.ofNat 1000) }) { c0 := { l0 := UInt64.ofNat 4, l1 := UInt64.ofNat 0, l2 := UInt64.ofNat 0, l3 := UInt64.ofNat 0, l4 := UInt64.ofNat 0, l5 := UInt64.ofNat 0 }, c1 := { l0 := UInt64.ofNat 4, l1 := UInt64.ofNat 0, l2 := UInt64.ofNat 0, l3 := UInt64.ofNat 0, l4 := UInt64.ofNat 0, l5 := UInt64.ofNat 0 } })).fst, inf := false }, true)) | false => (({ x := zeroFp2, y := zeroFp2, inf := false }, false))))))))))))))))))))))
def out9_T (f0 : UInt64 → Fp) (f1 : Fp2 → Fp2 × Bool) (f2 : Fp2 → Fp2 → Fp2) (f3 : Fp2 → Fp2 → Fp2) (n : UInt64) : Tree (Option (Pg2 × Bool)) :=
  (.br ((f1 (f2 (f3 (f3 { c0 := f0 (n % UInt64.ofNat 1000 + UInt64.ofNat 0), c1 := f0 (n / UInt64.ofNat 1000 % UInt64.ofNat 1000) } { c0 := f0 (n % UInt64.ofNat 1000 + UInt64.ofNat 0), c1 := f0 (n / UInt64.ofNat 1000 % UInt64.ofNat 1000) }) { c0 := f0 (n % UInt64.ofNat 1000 + UInt64.ofNat 0), c1 := f0 (n / UInt64.ofNat 1000 % UInt64.ofNat 1000) }) { c0 := { l0 := UInt64.ofNat 4, l1 := UInt64.ofNat 0, l2 := UInt64.ofNat 0, l3 := UInt64.ofNat 0, l4 := UInt64.ofNat 0, l5 := UInt64.ofNat 0 }, c1 := { l0 := UInt64.ofNat 4, l1 := UInt64.ofNat 0, l2 := UInt64.ofNat 0, l3 := UInt64.ofNat 0, l4 := UInt64.ofNat 0, l5 := UInt64.ofNat 0 } })).snd)
    (.leaf (some (({ x := { c0 := f0 (n % UInt64.ofNat 1000 + UInt64.ofNat 0), c1 := f0 (n / UInt64.ofNat 1000 % UInt64.ofNat 1000) }, y := (f1 (f2 (f3 (f3 { c0 := f0 (n % UInt64.ofNat 1000 + UInt64.ofNat 0), c1 := f0 (n / UInt64.ofNat 1000 % UInt64.ofNat 1000) } { c0 := f0 (n % UInt64.ofNat 1000 + UInt64.ofNat 0), c1 := f0 (n / UInt64.ofNat 1000 % UInt64.ofNat 1000) }) { c0 := f0 (n % UInt64.ofNat 1000 + UInt64.ofNat 0), c1 := f0 (n / UInt64.ofNat 1000 % UInt64.ofNat 1000) }) { c0 := { l0 := UInt64.ofNat 4, l1 := UInt64.ofNat 0, l2 := UInt64.ofNat 0, l3 := UInt64.ofNat 0, l4 := UInt64.ofNat 0, l5 := UInt64.ofNat 0 }, c1 := { l0 := UInt64.ofNat 4, l1 := UInt64.ofNat 0, l2 := UInt64.ofNat 0, l3 := UInt64.ofNat 0, l4 := UInt64.ofNat 0, l5 := UInt64.ofNat 0 } })).fst, inf := false }, true))))
    (.br ((f1 (f2 (f3 (f3 { c0 := f0 (n % UInt64.ofNat 1000 + UInt64.ofNat 1), c1 := f0 (n / UInt64.ofNat 1000 % UInt64.ofNat 1000) } { c0 := f0 (n % UInt64.ofNat 1000 + UInt64.ofNat 1), c1 := f0 (n / UInt64.ofNat 1000 % UInt64.ofNat 1000) }) { c0 := f0 (n % UInt64.ofNat 1000 + UInt64.ofNat 1), c1 := f0 (n / UInt64.ofNat 1000 % UInt64.ofNat 1000) }) { c0 := { l0 := UInt64.ofNat 4, l1 := UInt64.ofNat 0, l2 := UInt64.ofNat 0, l3 := UInt64.ofNat 0, l4 := UInt64.ofNat 0, l5 := UInt64.ofNat 0 }, c1 := { l0 := UInt64.ofNat 4, l1 := UInt64.ofNat 0, l2 := UInt64.ofNat 0, l3 := UInt64.ofNat 0, l4 := UInt64.ofNat 0, l5 := UInt64.ofNat 0 } })).snd)
      (.leaf (some (({ x := { c0 := f0 (n % UInt64.ofNat 1000 + UInt64.ofNat 1), c1 := f0 (n / UInt64.ofNat 1000 % UInt64.ofNat 1000) }, y := (f1 (f2 (f3 (f3 { c0 := f0 (n % UInt64.ofNat 1000 + UInt64.ofNat 1), c1 := f0 (n / UInt64.ofNat 1000 % UInt64.ofNat 1000) } { c0 := f0 (n % UInt64.ofNat 1000 + UInt64.ofNat 1), c1 := f0 (n / UInt64.ofNat 1000 % UInt64.ofNat 1000) }) { c0 := f0 (n % UInt64.ofNat 1000 + UInt64.ofNat 1), c1 := f0 (n / UInt64.ofNat 1000 % UInt64.ofNat 1000) }) { c0 := { l0 := UInt64.ofNat 4, l1 := UInt64.ofNat 0, l2 := UInt64.ofNat 0, l3 := UInt64.ofNat 0, l4 := UInt64.ofNat 0, l5 := UInt64.ofNat 0 }, c1 := { l0 := UInt64.ofNat 4, l1 := UInt64.ofNat 0, l2 := UInt64.ofNat 0, l3 := UInt64.ofNat 0, l4 := UInt64.ofNat 0, l5 := UInt64.ofNat 0 } })).fst, inf := false }, true))))
      (.br ((f1 (f2 (f3 (f3 { c0 := f0 (n % UInt64.ofNat 1000 + UInt64.ofNat 2), c1 := f0 (n / UInt64.ofNat 1000 % UInt64.ofNat 1000) } { c0 := f0 (n % UInt64.ofNat 1000 + UInt64.ofNat 2), c1 := f0 (n / UInt64.ofNat 1000 % UInt64.ofNat 1000) }) { c0 := f0 (n % UInt64.ofNat 1000 + UInt64.ofNat 2), c1 := f0 (n / UInt64.ofNat 1000 % UInt64.ofNat 1000) }) { c0 := { l0 := UInt64.ofNat 4, l1 := UInt64.ofNat 0, l2 := UInt64.ofNat 0, l3 := UInt64.ofNat 0, l4 := UInt64.ofNat 0, l5 := UInt64.ofNat 0 }, c1 := { l0 := UInt64.ofNat 4, l1 := UInt64.ofNat 0, l2 := UInt64.ofNat 0, l3 := UInt64.ofNat 0, l4 := UInt64.ofNat 0, l5 := UInt64.ofNat 0 } })).snd)
        (.leaf (some (({ x := { c0 := f0 (n % UInt64.ofNat 1000 + UInt64.ofNat 2), c1 := f0 (n / UInt64.ofNat 1000 % UInt64.ofNat 1000) }, y := (f1 (f2 (f3 (f3 { c0 := f0 (n % UInt64.ofNat 1000 + UInt64.ofNat 2), c1 := f0 (n / UInt64.ofNat 1000 % UInt64.ofNat 1000) } { c0 := f0 (n % UInt64.ofNat 1000 + UInt64.ofNat 2), c1 := f0 (n / UInt64.ofNat 1000 % UInt64.ofNat 1000) }) { c0 := f0 (n % UInt64.ofNat 1000 + UInt64.ofNat 2), c1 := f0 (n / UInt64.ofNat 1000 % UInt64.ofNat 1000) }) { c0 := { l0 := UInt64.ofNat 4, l1 := UInt64.ofNat 0, l2 := UInt64.ofNat 0, l3 := UInt64.ofNat 0, l4 := UInt64.ofNat 0, l5 := UInt64.ofNat 0 }, c1 := { l0 := UInt64.ofNat 4, l1 := UInt64.ofNat 0, l2 := UInt64.ofNat 0, l3 := UInt64.ofNat 0, l4 := UInt64.ofNat 0, l5 := UInt64.ofNat 0 } })).fst, inf := false }, true))))
        (.br ((f1 (f2 (f3 (f3 { c0 := f0 (n % UInt64.ofNat 1000 + UInt64.ofNat 3), c1 := f0 (n / UInt64.ofNat 1000 % UInt64.ofNat 1000) } { c0 := f0 (n % UInt64.ofNat 1000 + UInt64.ofNat 3), c1 := f0 (n / UInt64.ofNat 1000 % UInt64.ofNat 1000) }) { c0 := f0 (n % UInt64.ofNat 1000 + UInt64.ofNat 3), c1 := f0 (n / UInt64.ofNat 1000 % UInt64.ofNat 1000) }) { c0 := { l0 := UInt64.ofNat 4, l1 := UInt64.ofNat 0, l2 := UInt64.ofNat 0, l3 := UInt64.ofNat 0, l4 := UInt64.ofNat 0, l5 := UInt64.ofNat 0 }, c1 := { l0 := UInt64.ofNat 4, l1 := UInt64.ofNat 0, l2 := UInt64.ofNat 0, l3 := UInt64.ofNat 0, l4 := UInt64.ofNat 0, l5 := UInt64.ofNat 0 } })).snd)
          (.leaf (some (({ x := { c0 := f0 (n % UInt64.ofNat 1000 + UInt64.ofNat 3), c1 := f0 (n / UInt64.ofNat 1000 % UInt64.ofNat 1000) }, y := (f1 (f2 (f3 (f3 { c0 := f0 (n % UInt64.ofNat 1000 + UInt64.ofNat 3), c1 := f0 (n / UInt64.ofNat 1000 % UInt64.ofNat 1000) } { c0 := f0 (n % UInt64.ofNat 1000 + UInt64.ofNat 3), c1 := f0 (n / UInt64.ofNat 1000 % UInt64.ofNat 1000) }) { c0 := f0 (n % UInt64.ofNat 1000 + UInt64.ofNat 3), c1 := f0 (n / UInt64.ofNat 1000 % UInt64.ofNat 1000) }) { c0 := { l0 := UInt64.ofNat 4, l1 := UInt64.ofNat 0, l2 := UInt64.ofNat 0, l3 := UInt64.ofNat 0, l4 := UInt64.ofNat 0, l5 := UInt64.ofNat 0 }, c1 := { l0 := UInt64.ofNat 4, l1 := UInt64.ofNat 0, l2 := UInt64.ofNat 0, l3 := UInt64.ofNat 0, l4 := UInt64.ofNat 0, l5 := UInt64.ofNat 0 } })).fst, inf := false }, true))))
          (.br ((f1 (f2 (f3 (f3 { c0 := f0 (n % UInt64.ofNat 1000 + UInt64.ofNat 4), c1 := f0 (n / UInt64.ofNat 1000 % UInt64.ofNat 1000) } { c0 := f0 (n % UInt64.ofNat 1000 + UInt64.ofNat 4), c1 := f0 (n / UInt64.ofNat 1000 % UInt64.ofNat 1000) }) { c0 := f0 (n % UInt64.ofNat 1000 + UInt64.ofNat 4), c1 := f0 (n / UInt64.ofNat 1000 % UInt64.ofNat 1000) }) { c0 := { l0 := UInt64.ofNat 4, l1 := UInt64.ofNat 0, l2 := UInt64.ofNat 0, l3 := UInt64.ofNat 0, l4 := UInt64.ofNat 0, l5 := UInt64.ofNat 0 }, c1 := { l0 := UInt64.ofNat 4, l1 := UInt64.ofNat 0, l2 := UInt64.ofNat 0, l3 := UInt64.ofNat 0, l4 := UInt64.ofNat 0, l5 := UInt64.ofNat 0 } })).snd)
            (.leaf (some (({ x := { c0 := f0 (n % UInt64.ofNat 1000 + UInt64.ofNat 4), c1 := f0 (n / UInt64.ofNat 1000 % UInt64.ofNat 1000) }, y := (f1 (f2 (f3 (f3 { c0 := f0 (n % UInt64.ofNat 1000 + UInt64.ofNat 4), c1 := f0 (n / UInt64.ofNat 1000 % UInt64.ofNat 1000) } { c0 := f0 (n % UInt64.ofNat 1000 + UInt64.ofNat 4), c1 := f0 (n / UInt64.ofNat 1000 % UInt64.ofNat 1000) }) { c0 := f0 (n % UInt64.ofNat 1000 + UInt64.ofNat 4), c1 := f0 (n / UInt64.ofNat 1000 % UInt64.ofNat 1000) }) { c0 := { l0 := UInt64.ofNat 4, l1 := UInt64.ofNat 0, l2 := UInt64.ofNat 0, l3 := UInt64.ofNat 0, l4 := UInt64.ofNat 0, l5 := UInt64.ofNat 0 }, c1 := { l0 := UInt64.ofNat 4, l1 := UInt64.ofNat 0, l2 := UInt64.ofNat 0, l3 := UInt64.ofNat 0, l4 := UInt64.ofNat 0, l5 := UInt64.ofNat 0 } })).fst, inf := false }, true))))
            (.br ((f1 (f2 (f3 (f3 { c0 := f0 (n % UInt64.ofNat 1000 + UInt64.ofNat 5), c1 := f0 (n / UInt64.ofNat 1000 % UInt64.ofNat 1000) } { c0 := f0 (n % UInt64.ofNat 1000 + UInt64.ofNat 5), c1 := f0 (n / UInt64.ofNat 1000 % UInt64.ofNat 1000) }) { c0 := f0 (n % UInt64.ofNat 1000 + UInt64.ofNat 5), c1 := f0 (n / UInt64.ofNat 1000 % UInt64.ofNat 1000) }) { c0 := { l0 := UInt64.ofNat 4, l1 := UInt64.ofNat 0, l2 := UInt64.ofNat 0, l3 := UInt64.ofNat 0, l4 := UInt64.ofNat 0, l5 := UInt64.ofNat 0 }, c1 := { l0 := UInt64.ofNat 4, l1 := UInt64.ofNat 0, l2 := UInt64.ofNat 0, l3 := UInt64.ofNat 0, l4 := UInt64.ofNat 0, l5 := UInt64.ofNat 0 } })).snd)
              (.leaf (some (({ x := { c0 := f0 (n % UInt64.ofNat 1000 + UInt64.ofNat 5), c1 := f0 (n / UInt64.ofNat 1000 % UInt64.ofNat 1000) }, y := (f1 (f2 (f3 (f3 { c0 := f0 (n % UInt64.ofNat 1000 + UInt64.ofNat 5), c1 := f0 (n / UInt64.ofNat 1000 % UInt64.ofNat 1000) } { c0 := f0 (n % UInt64.ofNat 1000 + UInt64.ofNat 5), c1 := f0 (n / UInt64.ofNat 1000 % UInt64.ofNat 1000) }) { c0 := f0 (n % UInt64.ofNat 1000 + UInt64.ofNat 5), c1 := f0 (n / UInt64.ofNat 1000 % UInt64.ofNat 1000) }) { c0 := { l0 := UInt64.ofNat 4, l1 := UInt64.ofNat 0, l2 := UInt64.ofNat 0, l3 := UInt64.ofNat 0, l4 := UInt64.ofNat 0, l5 := UInt64.ofNat 0 }, c1 := { l0 := UInt64.ofNat 4, l1 := UInt64.ofNat 0, l2 := UInt64.ofNat 0, l3 := UInt64.ofNat 0, l4 := UInt64.ofNat 0, l5 := UInt64.ofNat 0 } })).fst, inf := false }, true))))
              (.br ((f1 (f2 (f3 (f3 { c0 := f0 (n % UInt64.ofNat 1000 + UInt64.ofNat 6), c1 := f0 (n / UInt64.ofNat 1000 % UInt64.ofNat 1000) } { c0 := f0 (n % UInt64.ofNat 1000 + UInt64.ofNat 6), c1 := f0 (n / UInt64.ofNat 1000 % UInt64.ofNat 1000) }) { c0 := f0 (n % UInt64.ofNat 1000 + UInt64.ofNat 6), c1 := f0 (n / UInt64.ofNat 1000 % UInt64.ofNat 1000) }) { c0 := { l0 := UInt64.ofNat 4, l1 := UInt64.ofNat 0, l2 := UInt64.ofNat 0, l3 := UInt64.ofNat 0, l4 := UInt64.ofNat 0, l5 := UInt64.ofNat 0 }, c1 := { l0 := UInt64.ofNat 4, l1 := UInt64.ofNat 0, l2 := UInt64.ofNat 0, l3 := UInt64.ofNat 0, l4 := UInt64.ofNat 0, l5 := UInt64.ofNat 0 } })).snd)
                (.leaf (some (({ x := { c0 := f0 (n % UInt64.ofNat 1000 + UInt64.ofNat 6), c1 := f0 (n / UInt64.ofNat 1000 % UInt64.ofNat 1000) }, y := (f1 (f2 (f3 (f3 { c0 := f0 (n % UInt64.ofNat 1000 + UInt64.ofNat 6), c1 := f0 (n / UInt64.ofNat 1000 % UInt64.ofNat 1000) } { c0 := f0 (n % UInt64.ofNat 1000 + UInt64.ofNat 6), c1 := f0 (n / UInt64.ofNat 1000 % UInt64.ofNat 1000) }) { c0 := f0 (n % UInt64.ofNat 1000 + UInt64.ofNat 6), c1 := f0 (n / UInt64.ofNat 1000 % UInt64.ofNat 1000) }) { c0 := { l0 := UInt64.ofNat 4, l1 := UInt64.ofNat 0, l2 := UInt64.ofNat 0, l3 := UInt64.ofNat 0, l4 := UInt64.ofNat 0, l5 := UInt64.ofNat 0 }, c1 := { l0 := UInt64.ofNat 4, l1 := UInt64.ofNat 0, l2 := UInt64.ofNat 0, l3 := UInt64.ofNat 0, l4 := UInt64.ofNat 0, l5 := UInt64.ofNat 0 } })).fst, inf := false }, true))))
                (.br ((f1 (f2 (f3 (f3 { c0 := f0 (n % UInt64.ofNat 1000 + UInt64.ofNat 7), c1 := f0 (n / UInt64.ofNat 1000 % UInt64.ofNat 1000) } { c0 := f0 (n % UInt64.ofNat 1000 + UInt64.ofNat 7), c1 := f0 (n / UInt64.ofNat 1000 % UInt64.ofNat 1000) }) { c0 := f0 (n % UInt64.ofNat 1000 + UInt64.ofNat 7), c1 := f0 (n / UInt64.ofNat 1000 % UInt64.ofNat 1000) }) { c0 := { l0 := UInt64.ofNat 4, l1 := UInt64.ofNat 0, l2 := UInt64.ofNat 0, l3 := UInt64.ofNat 0, l4 := UInt64.ofNat 0, l5 := UInt64.ofNat 0 }, c1 := { l0 := UInt64.ofNat 4, l1 := UInt64.ofNat 0, l2 := UInt64.ofNat 0, l3 := UInt64.ofNat 0, l4 := UInt64.ofNat 0, l5 := UInt64.ofNat 0 } })).snd)
                  (.leaf (some (({ x := { c0 := f0 (n % UInt64.ofNat 1000 + UInt64.ofNat 7), c1 := f0 (n / UInt64.ofNat 1000 % UInt64.ofNat 1000) }, y := (f1 (f2 (f3 (f3 { c0 := f0 (n % UInt64.ofNat 1000 + UInt64.ofNat 7), c1 := f0 (n / UInt64.ofNat 1000 % UInt64.ofNat 1000) } { c0 := f0 (n % UInt64.ofNat 1000 + UInt64.ofNat 7), c1 := f0 (n / UInt64.ofNat 1000 % UInt64.ofNat 1000) }) { c0 := f0 (n % UInt64.ofNat 1000 + UInt64.ofNat 7), c1 := f0 (n / UInt64.ofNat 1000 % UInt64.ofNat 1000) }) { c0 := { l0 := UInt64.ofNat 4, l1 := UInt64.ofNat 0, l2 := UInt64.ofNat 0, l3 := UInt64.ofNat 0, l4 := UInt64.ofNat 0, l5 := UInt64.ofNat 0 }, c1 := { l0 := UInt64.ofNat 4, l1 := UInt64.ofNat 0, l2 := UInt64.ofNat 0, l3 := UInt64.ofNat 0, l4 := UInt64.ofNat 0, l5 := UInt64.ofNat 0 } })).fst, inf := false }, true))))
                  (.br ((f1 (f2 (f3 (f3 { c0 := f0 (n % UInt64.ofNat 1000 + UInt64.ofNat 8), c1 := f0 (n / UInt64.ofNat 1000 % UInt64.ofNat 1000) } { c0 := f0 (n % UInt64.ofNat 1000 + UInt64.ofNat 8), c1 := f0 (n / UInt64.ofNat 1000 % UInt64.ofNat 1000) }) { c0 := f0 (n % UInt64.ofNat 1000 + UInt64.ofNat 8), c1 := f0 (n / UInt64.ofNat 1000 % UInt64.ofNat 1000) }) { c0 := { l0 := UInt64.ofNat 4, l1 := UInt64.ofNat 0, l2 := UInt64.ofNat 0, l3 := UInt64.ofNat 0, l4 := UInt64.ofNat 0, l5 := UInt64.ofNat 0 }, c1 := { l0 := UInt64.ofNat 4, l1 := UInt64.ofNat 0, l2 := UInt64.ofNat 0, l3 := UInt64.ofNat 0, l4 := UInt64.ofNat 0, l5 := UInt64.ofNat 0 } })).snd)
                    (.leaf (some (({ x := { c0 := f0 (n % UInt64.ofNat 1000 + UInt64.ofNat 8), c1 := f0 (n / UInt64.ofNat 1000 % UInt64.ofNat 1000) }, y := (f1 (f2 (f3 (f3 { c0 := f0 (n % UInt64.ofNat 1000 + UInt64.ofNat 8), c1 := f0 (n / UInt64.ofNat 1000 % UInt64.ofNat 1000) } { c0 := f0 (n % UInt64.ofNat 1000 + UInt64.ofNat 8), c1 := f0 (n / UInt64.ofNat 1000 % UInt64.ofNat 1000) }) { c0 := f0 (n % UInt64.ofNat 1000 + UInt64.ofNat 8), c1 := f0 (n / UInt64.ofNat 1000 % UInt64.ofNat 1000) }) { c0 := { l0 := UInt64.ofNat 4, l1 := UInt64.ofNat 0, l2 := UInt64.ofNat 0, l3 := UInt64.ofNat 0, l4 := UInt64.ofNat 0, l5 := UInt64.ofNat 0 }, c1 := { l0 := UInt64.ofNat 4, l1 := UInt64.ofNat 0, l2 := UInt64.ofNat 0, l3 := UInt64.ofNat 0, l4 := UInt64.ofNat 0, l5 := UInt64.ofNat 0 } })).fst, inf := false }, true))))
                    (.br ((f1 (f2 (f3 (f3 { c0 := f0 (n % UInt64.ofNat 1000 + UInt64.ofNat 9), c1 := f0 (n / UInt64.ofNat 1000 % UInt64.ofNat 1000) } { c0 := f0 (n % UInt64.ofNat 1000 + UInt64.ofNat 9), c1 := f0 (n / UInt64.ofNat 1000 % UInt64.ofNat 1000) }) { c0 := f0 (n % UInt64.ofNat 1000 + UInt64.ofNat 9), c1 := f0 (n / UInt64.ofNat 1000 % UInt64.ofNat 1000) }) { c0 := { l0 := UInt64.ofNat 4, l1 := UInt64.ofNat 0, l2 := UInt64.ofNat 0, l3 := UInt64.ofNat 0, l4 := UInt64.ofNat 0, l5 := UInt64.ofNat 0 }, c1 := { l0 := UInt64.ofNat 4, l1 := UInt64.ofNat 0, l2 := UInt64.ofNat 0, l3 := UInt64.ofNat 0, l4 := UInt64.ofNat 0, l5 := UInt64.ofNat 0 } })).snd)
                      (.leaf (some (({ x := { c0 := f0 (n % UInt64.ofNat 1000 + UInt64.ofNat 9), c1 := f0 (n / UInt64.ofNat 1000 % UInt64.ofNat 1000) }, y := (f1 (f2 (f3 (f3 { c0 := f0 (n % UInt64.ofNat 1000 + UInt64.ofNat 9), c1 := f0 (n / UInt64.ofNat 1000 % UInt64.ofNat 1000) } { c0 := f0 (n % UInt64.ofNat 1000 + UInt64.ofNat 9), c1 := f0 (n / UInt64.ofNat 1000 % UInt64.ofNat 1000) }) { c0 := f0 (n % UInt64.ofNat 1000 + UInt64.ofNat 9), c1 := f0 (n / UInt64.ofNat 1000 % UInt64.ofNat 1000) }) { c0 := { l0 := UInt64.ofNat 4, l1 := UInt64.ofNat 0, l2 := UInt64.ofNat 0, l3 := UInt64.ofNat 0, l4 := UInt64.ofNat 0, l5 := UInt64.ofNat 0 }, c1 := { l0 := UInt64.ofNat 4, l1 := UInt64.ofNat 0, l2 := UInt64.ofNat 0, l3 := UInt64.ofNat 0, l4 := UInt64.ofNat 0, l5 := UInt64.ofNat 0 } })).fst, inf := false }, true))))
                      (.br ((f1 (f2 (f3 (f3 { c0 := f0 (n % UInt64.ofNat 1000 + UInt64.ofNat 10), c1 := f0 (n / UInt64.ofNat 1000 % UInt64.ofNat 1000) } { c0 := f0 (n % UInt64.ofNat 1000 + UInt64.ofNat 10), c1 := f0 (n / UInt64.ofNat 1000 % UInt64.ofNat 1000) }) { c0 := f0 (n % UInt64.ofNat 1000 + UInt64.ofNat 10), c1 := f0 (n / UInt64.ofNat 1000 % UInt64.ofNat 1000) }) { c0 := { l0 := UInt64.ofNat 4, l1 := UInt64.ofNat 0, l2 := UInt64.ofNat 0, l3 := UInt64.ofNat 0, l4 := UInt64.ofNat 0, l5 := UInt64.ofNat 0 }, c1 := { l0 := UInt64.ofNat 4, l1 := UInt64.ofNat 0, l2 := UInt64.ofNat 0, l3 := UInt64.ofNat 0, l4 := UInt64.ofNat 0, l5 := UInt64.ofNat 0 } })).snd)
                        (.leaf (some (({ x := { c0 := f0 (n % UInt64.ofNat 1000 + UInt64.ofNat 10), c1 := f0 (n / UInt64.ofNat 1000 % UInt64.ofNat 1000) }, y := (f1 (f2 (f3 (f3 { c0 := f0 (n % UInt64.ofNat 1000 + UInt64.ofNat 10), c1 := f0 (n / UInt64.ofNat 1000 % UInt64.ofNat 1000) } { c0 := f0 (n % UInt64.ofNat 1000 + UInt64.ofNat 10), c1 := f0 (n / UInt64.ofNat 1000 % UInt64.ofNat 1000) }) { c0 := f0 (n % UInt64.ofNat 1000 + UInt64.ofNat 10), c1 := f0 (n / UInt64.ofNat 1000 % UInt64.ofNat 1000) }) { c0 := { l0 := UInt64.ofNat 4, l1 := UInt64.ofNat 0, l2 := UInt64.ofNat 0, l3 := UInt64.ofNat 0, l4 := UInt64.ofNat 0, l5 := UInt64.ofNat 0 }, c1 := { l0 := UInt64.ofNat 4, l1 := UInt64.ofNat 0, l2 := UInt64.ofNat 0, l3 := UInt64.ofNat 0, l4 := UInt64.ofNat 0, l5 := UInt64.ofNat 0 } })).fst, inf := false }, true))))
                        (.br ((f1 (f2 (f3 (f3 { c0 := f0 (n % UInt64.ofNat 1000 + UInt64.ofNat 11), c1 := f0 (n / UInt64.ofNat 1000 % UInt64.ofNat 1000) } { c0 := f0 (n % UInt64.ofNat 1000 + UInt64.ofNat 11), c1 := f0 (n / UInt64.ofNat 1000 % UInt64.ofNat 1000) }) { c0 := f0 (n % UInt64.ofNat 1000 + UInt64.ofNat 11), c1 := f0 (n / UInt64.ofNat 1000 % UInt64.ofNat 1000) }) { c0 := { l0 := UInt64.ofNat 4, l1 := UInt64.ofNat 0, l2 := UInt64.ofNat 0, l3 := UInt64.ofNat 0, l4 := UInt64.ofNat 0, l5 := UInt64.ofNat 0 }, c1 := { l0 := UInt64.ofNat 4, l1 := UInt64.ofNat 0, l2 := UInt64.ofNat 0, l3 := UInt64.ofNat 0, l4 := UInt64.ofNat 0, l5 := UInt64.ofNat 0 } })).snd)
                          (.leaf (some (({ x := { c0 := f0 (n % UInt64.ofNat 1000 + UInt64.ofNat 11), c1 := f0 (n / UInt64.ofNat 1000 % UInt64.ofNat 1000) }, y := (f1 (f2 (f3 (f3 { c0 := f0 (n % UInt64.ofNat 1000 + UInt64.ofNat 11), c1 := f0 (n / UInt64.ofNat 1000 % UInt64.ofNat 1000) } { c0 := f0 (n % UInt64.ofNat 1000 + UInt64.ofNat 11), c1 := f0 (n / UInt64.ofNat 1000 % UInt64.ofNat 1000) }) { c0 := f0 (n % UInt64.ofNat 1000 + UInt64.ofNat 11), c1 := f0 (n / UInt64.ofNat 1000 % UInt64.ofNat 1000) }) { c0 := { l0 := UInt64.ofNat 4, l1 := UInt64.ofNat 0, l2 := UInt64.ofNat 0, l3 := UInt64.ofNat 0, l4 := UInt64.ofNat 0, l5 := UInt64.ofNat 0 }, c1 := { l0 := UInt64.ofNat 4, l1 := UInt64.ofNat 0, l2 := UInt64.ofNat 0, l3 := UInt64.ofNat 0, l4 := UInt64.ofNat 0, l5 := UInt64.ofNat 0 } })).fst, inf := false }, true))))
                          (.br ((f1 (f2 (f3 (f3 { c0 := f0 (n % UInt64.ofNat 1000 + UInt64.ofNat 12), c1 := f0 (n / UInt64.ofNat 1000 % UInt64.ofNat 1000) } { c0 := f0 (n % UInt64.ofNat 1000 + UInt64.ofNat 12), c1 := f0 (n / UInt64.ofNat 1000 % UInt64.ofNat 1000) }) { c0 := f0 (n % UInt64.ofNat 1000 + UInt64.ofNat 12), c1 := f0 (n / UInt64.ofNat 1000 % UInt64.ofNat 1000) }) { c0 := { l0 := UInt64.ofNat 4, l1 := UInt64.ofNat 0, l2 := UInt64.ofNat 0, l3 := UInt64.ofNat 0, l4 := UInt64.ofNat 0, l5 := UInt64.ofNat 0 }, c1 := { l0 := UInt64.ofNat 4, l1 := UInt64.ofNat 0, l2 := UInt64.ofNat 0, l3 := UInt64.ofNat 0, l4 := UInt64.ofNat 0, l5 := UInt64.ofNat 0 } })).snd)
                            (.leaf (some (({ x := { c0 := f0 (n % UInt64.ofNat 1000 + UInt64.ofNat 12), c1 := f0 (n / UInt64.ofNat 1000 % UInt64.ofNat 1000) }, y := (f1 (f2 (f3 (f3 { c0 := f0 (n % UInt64.ofNat 1000 + UInt64.ofNat 12), c1 := f0 (n / UInt64.ofNat 1000 % UInt64.ofNat 1000) } { c0 := f0 (n % UInt64.ofNat 1000 + UInt64.ofNat 12), c1 := f0 (n / UInt64.ofNat 1000 % UInt64.ofNat 1000) }) { c0 := f0 (n % UInt64.ofNat 1000 + UInt64.ofNat 12), c1 := f0 (n / UInt64.ofNat 1000 % UInt64.ofNat 1000) }) { c0 := { l0 := UInt64.ofNat 4, l1 := UInt64.ofNat 0, l2 := UInt64.ofNat 0, l3 := UInt64.ofNat 0, l4 := UInt64.ofNat 0, l5 := UInt64.ofNat 0 }, c1 := { l0 := UInt64.ofNat 4, l1 := UInt64.ofNat 0, l2 := UInt64.ofNat 0, l3 := UInt64.ofNat 0, l4 := UInt64.ofNat 0, l5 := UInt64.ofNat 0 } })).fst, inf := false }, true))))
                            (.br ((f1 (f2 (f3 (f3 { c0 := f0 (n % UInt64.ofNat 1000 + UInt64.ofNat 13), c1 := f0 (n / UInt64.ofNat 1000 % UInt64.ofNat 1000) } { c0 := f0 (n % UInt64.ofNat 1000 + UInt64.ofNat 13), c1 := f0 (n / UInt64.ofNat 1000 % UInt64.ofNat 1000) }) { c0 := f0 (n % UInt64.ofNat 1000 + UInt64.ofNat 13), c1 := f0 (n / UInt64.ofNat 1000 % UInt64.ofNat 1000) }) { c0 := { l0 := UInt64.ofNat 4, l1 := UInt64.ofNat 0, l2 := UInt64.ofNat 0, l3 := UInt64.ofNat 0, l4 := UInt64.ofNat 0, l5 := UInt64.ofNat 0 }, c1 := { l0 := UInt64.ofNat 4, l1 := UInt64.ofNat 0, l2 := UInt64.ofNat 0, l3 := UInt64.ofNat 0, l4 := UInt64.ofNat 0, l5 := UInt64.ofNat 0 } })).snd)
                              (.leaf (some (({ x := { c0 := f0 (n % UInt64.ofNat 1000 + UInt64.ofNat 13), c1 := f0 (n / UInt64.ofNat 1000 % UInt64.ofNat 1000) }, y := (f1 (f2 (f3 (f3 { c0 := f0 (n % UInt64.ofNat 1000 + UInt64.ofNat 13), c1 := f0 (n / UInt64.ofNat 1000 % UInt64.ofNat 1000) } { c0 := f0 (n % UInt64.ofNat 1000 + UInt64.ofNat 13), c1 := f0 (n / UInt64.ofNat 1000 % UInt64.ofNat 1000) }) { c0 := f0 (n % UInt64.ofNat 1000 + UInt64.ofNat 13), c1 := f0 (n / UInt64.ofNat 1000 % UInt64.ofNat 1000) }) { c0 := { l0 := UInt64.ofNat 4, l1 := UInt64.ofNat 0, l2 := UInt64.ofNat 0, l3 := UInt64.ofNat 0, l4 := UInt64.ofNat 0, l5 := UInt64.ofNat 0 }, c1 := { l0 := UInt64.ofNat 4, l1 := UInt64.ofNat 0, l2 := UInt64.ofNat 0, l3 := UInt64.ofNat 0, l4 := UInt64.ofNat 0, l5 := UInt64.ofNat 0 } })).fst, inf := false }, true))))
                              (.br ((f1 (f2 (f3 (f3 { c0 := f0 (n % UInt64.ofNat 1000 + UInt64.ofNat 14), c1 := f0 (n / UInt64.ofNat 1000 % UInt64.ofNat 1000) } { c0 := f0 (n % UInt64.ofNat 1000 + UInt64.ofNat 14), c1 := f0 (n / UInt64.ofNat 1000 % UInt64.ofNat 1000) }) { c0 := f0 (n % UInt64.ofNat 1000 + UInt64.ofNat 14), c1 := f0 (n / UInt64.ofNat 1000 % UInt64.ofNat 1000) }) { c0 := { l0 := UInt64.ofNat 4, l1 := UInt64.ofNat 0, l2 := UInt64.ofNat 0, l3 := UInt64.ofNat 0, l4 := UInt64.ofNat 0, l5 := UInt64.ofNat 0 }, c1 := { l0 := UInt64.ofNat 4, l1 := UInt64.ofNat 0, l2 := UInt64.ofNat 0, l3 := UInt64.ofNat 0, l4 := UInt64.ofNat 0, l5 := UInt64.ofNat 0 } })).snd)
                                (.leaf (some (({ x := { c0 := f0 (n % UInt64.ofNat 1000 + UInt64.ofNat 14), c1 := f0 (n / UInt64.ofNat 1000 % UInt64.ofNat 1000) }, y := (f1 (f2 (f3 (f3 { c0 := f0 (n % UInt64.ofNat 1000 + UInt64.ofNat 14), c1 := f0 (n / UInt64.ofNat 1000 % UInt64.ofNat 1000) } { c0 := f0 (n % UInt64.ofNat 1000 + UInt64.ofNat 14), c1 := f0 (n / UInt64.ofNat 1000 % UInt64.ofNat 1000) }) { c0 := f0 (n % UInt64.ofNat 1000 + UInt64.ofNat 14), c1 := f0 (n / UInt64.ofNat 1000 % UInt64.ofNat 1000) }) { c0 := { l0 := UInt64.ofNat 4, l1 := UInt64.ofNat 0, l2 := UInt64.ofNat 0, l3 := UInt64.ofNat 0, l4 := UInt64.ofNat 0, l5 := UInt64.ofNat 0 }, c1 := { l0 := UInt64.ofNat 4, l1 := UInt64.ofNat 0, l2 := UInt64.ofNat 0, l3 := UInt64.ofNat 0, l4 := UInt64.ofNat 0, l5 := UInt64.ofNat 0 } })).fst, inf := false }, true))))
                                (.br ((f1 (f2 (f3 (f3 { c0 := f0 (n % UInt64.ofNat 1000 + UInt64.ofNat 15), c1 := f0 (n / UInt64.ofNat 1000 % UInt64.ofNat 1000) } { c0 := f0 (n % UInt64.ofNat 1000 + UInt64.ofNat 15), c1 := f0 (n / UInt64.ofNat 1000 % UInt64.ofNat 1000) }) { c0 := f0 (n % UInt64.ofNat 1000 + UInt64.ofNat 15), c1 := f0 (n / UInt64.ofNat 1000 % UInt64.ofNat 1000) }) { c0 := { l0 := UInt64.ofNat 4, l1 := UInt64.ofNat 0, l2 := UInt64.ofNat 0, l3 := UInt64.ofNat 0, l4 := UInt64.ofNat 0, l5 := UInt64.ofNat 0 }, c1 := { l0 := UInt64.ofNat 4, l1 := UInt64.ofNat 0, l2 := UInt64.ofNat 0, l3 := UInt64.ofNat 0, l4 := UInt64.ofNat 0, l5 := UInt64.ofNat 0 } })).snd)
                                  (.leaf (some (({ x := { c0 := f0 (n % UInt64.ofNat 1000 + UInt64.ofNat 15), c1 := f0 (n / UInt64.ofNat 1000 % UInt64.ofNat 1000) }, y := (f1 (f2 (f3 (f3 { c0 := f0 (n % UInt64.ofNat 1000 + UInt64.ofNat 15), c1 := f0 (n / UInt64.ofNat 1000 % UInt64.ofNat 1000) } { c0 := f0 (n % UInt64.ofNat 1000 + UInt64.ofNat 15), c1 := f0 (n / UInt64.ofNat 1000 % UInt64.ofNat 1000) }) { c0 := f0 (n % UInt64.ofNat 1000 + UInt64.ofNat 15), c1 := f0 (n / UInt64.ofNat 1000 % UInt64.ofNat 1000) }) { c0 := { l0 := UInt64.ofNat 4, l1 := UInt64.ofNat 0, l2 := UInt64.ofNat 0, l3 := UInt64.ofNat 0, l4 := UInt64.ofNat 0, l5 := UInt64.ofNat 0 }, c1 := { l0 := UInt64.ofNat 4, l1 := UInt64.ofNat 0, l2 := UInt64.ofNat 0, l3 := UInt64.ofNat 0, l4 := UInt64.ofNat 0, l5 := UInt64.ofNat 0 } })).fst, inf := false }, true))))
                                  (.br ((f1 (f2 (f3 (f3 { c0 := f0 (n % UInt64.ofNat 1000 + UInt64.ofNat 16), c1 := f0 (n / UInt64.ofNat 1000 % UInt64.ofNat 1000) } { c0 := f0 (n % UInt64.ofNat 1000 + UInt64.ofNat 16), c1 := f0 (n / UInt64.ofNat 1000 % UInt64.ofNat 1000) }) { c0 := f0 (n % UInt64.ofNat 1000 + UInt64.ofNat 16), c1 := f0 (n / UInt64.ofNat 1000 % UInt64.ofNat 1000) }) { c0 := { l0 := UInt64.ofNat 4, l1 := UInt64.ofNat 0, l2 := UInt64.ofNat 0, l3 := UInt64.ofNat 0, l4 := UInt64.ofNat 0, l5 := UInt64.ofNat 0 }, c1 := { l0 := UInt64.ofNat 4, l1 := UInt64.ofNat 0, l2 := UInt64.ofNat 0, l3 := UInt64.ofNat 0, l4 := UInt64.ofNat 0, l5 := UInt64.ofNat 0 } })).snd)
                                    (.leaf (some (({ x := { c0 := f0 (n % UInt64.ofNat 1000 + UInt64.ofNat 16), c1 := f0 (n / UInt64.ofNat 1000 % UInt64.ofNat 1000) }, y := (f1 (f2 (f3 (f3 { c0 := f0 (n % UInt64.ofNat 1000 + UInt64.ofNat 16), c1 := f0 (n / UInt64.ofNat 1000 % UInt64.ofNat 1000) } { c0 := f0 (n % UInt64.ofNat 1000 + UInt64.ofNat 16), c1 := f0 (n / UInt64.ofNat 1000 % UInt64.ofNat 1000) }) { c0 := f0 (n % UInt64.ofNat 1000 + UInt64.ofNat 16), c1 := f0 (n / UInt64.ofNat 1000 % UInt64.ofNat 1000) }) { c0 := { l0 := UInt64.ofNat 4, l1 := UInt64.ofNat 0, l2 := UInt64.ofNat 0, l3 := UInt64.ofNat 0, l4 := UInt64.ofNat 0, l5 := UInt64.ofNat 0 }, c1 := { l0 := UInt64.ofNat 4, l1 := UInt64.ofNat 0, l2 := UInt64.ofNat 0, l3 := UInt64.ofNat 0, l4 := UInt64.ofNat 0, l5 := UInt64.ofNat 0 } })).fst, inf := false }, true))))
                                    (.br ((f1 (f2 (f3 (f3 { c0 := f0 (n % UInt64.ofNat 1000 + UInt64.ofNat 17), c1 := f0 (n / UInt64.ofNat 1000 % UInt64.ofNat 1000) } { c0 := f0 (n % UInt64.ofNat 1000 + UInt64.ofNat 17), c1 := f0 (n / UInt64.ofNat 1000 % UInt64.ofNat 1000) }) { c0 := f0 (n % UInt64.ofNat 1000 + UInt64.ofNat 17), c1 := f0 (n / UInt64.ofNat 1000 % UInt64.ofNat 1000) }) { c0 := { l0 := UInt64.ofNat 4, l1 := UInt64.ofNat 0, l2 := UInt64.ofNat 0, l3 := UInt64.ofNat 0, l4 := UInt64.ofNat 0, l5 := UInt64.ofNat 0 }, c1 := { l0 := UInt64.ofNat 4, l1 := UInt64.ofNat 0, l2 := UInt64.ofNat 0, l3 := UInt64.ofNat 0, l4 := UInt64.ofNat 0, l5 := UInt64.ofNat 0 } })).snd)
                                      (.leaf (some (({ x := { c0 := f0 (n % UInt64.ofNat 1000 + UInt64.ofNat 17), c1 := f0 (n / UInt64.ofNat 1000 % UInt64.ofNat 1000) }, y := (f1 (f2 (f3 (f3 { c0 := f0 (n % UInt64.ofNat 1000 + UInt64.ofNat 17), c1 := f0 (n / UInt64.ofNat 1000 % UInt64.ofNat 1000) } { c0 := f0 (n % UInt64.ofNat 1000 + UInt64.ofNat 17), c1 := f0 (n / UInt64.ofNat 1000 % UInt64.ofNat 1000) }) { c0 := f0 (n % UInt64.ofNat 1000 + UInt64.ofNat 17), c1 := f0 (n / UInt64.ofNat 1000 % UInt64.ofNat 1000) }) { c0 := { l0 := UInt64.ofNat 4, l1 := UInt64.ofNat 0, l2 := UInt64.ofNat 0, l3 := UInt64.ofNat 0, l4 := UInt64.ofNat 0, l5 := UInt64.ofNat 0 }, c1 := { l0 := UInt64.ofNat 4, l1 := UInt64.ofNat 0, l2 := UInt64.ofNat 0, l3 := UInt64.ofNat 0, l4 := UInt64.ofNat 0, l5 := UInt64.ofNat 0 } })).fst, inf := false }, true))))
                                      (.br ((f1 (f2 (f3 (f3 { c0 := f0 (n % UInt64.ofNat 1000 + UInt64.ofNat 18), c1 := f0 (n / UInt64.ofNat 1000 % UInt64.ofNat 1000) } { c0 := f0 (n % UInt64.ofNat 1000 + UInt64.ofNat 18), c1 := f0 (n / UInt64.ofNat 1000 % UInt64.ofNat 1000) }) { c0 := f0 (n % UInt64.ofNat 1000 + UInt64.ofNat 18), c1 := f0 (n / UInt64.ofNat 1000 % UInt64.ofNat 1000) }) { c0 := { l0 := UInt64.ofNat 4, l1 := UInt64.ofNat 0, l2 := UInt64.ofNat 0, l3 := UInt64.ofNat 0, l4 := UInt64.ofNat 0, l5 := UInt64.ofNat 0 }, c1 := { l0 := UInt64.ofNat 4, l1 := UInt64.ofNat 0, l2 := UInt64.ofNat 0, l3 := UInt64.ofNat 0, l4 := UInt64.ofNat 0, l5 := UInt64.ofNat 0 } })).snd)
                                        (.leaf (some (({ x := { c0 := f0 (n % UInt64.ofNat 1000 + UInt64.ofNat 18), c1 := f0 (n / UInt64.ofNat 1000 % UInt64.ofNat 1000) }, y := (f1 (f2 (f3 (f3 { c0 := f0 (n % UInt64.ofNat 1000 + UInt64.ofNat 18), c1 := f0 (n / UInt64.ofNat 1000 % UInt64.ofNat 1000) } { c0 := f0 (n % UInt64.ofNat 1000 + UInt64.ofNat 18), c1 := f0 (n / UInt64.ofNat 1000 % UInt64.ofNat 1000) }) { c0 := f0 (n % UInt64.ofNat 1000 + UInt64.ofNat 18), c1 := f0 (n / UInt64.ofNat 1000 % UInt64.ofNat 1000) }) { c0 := { l0 := UInt64.ofNat 4, l1 := UInt64.ofNat 0, l2 := UInt64.ofNat 0, l3 := UInt64.ofNat 0, l4 := UInt64.ofNat 0, l5 := UInt64.ofNat 0 }, c1 := { l0 := UInt64.ofNat 4, l1 := UInt64.ofNat 0, l2 := UInt64.ofNat 0, l3 := UInt64.ofNat 0, l4 := UInt64.ofNat 0, l5 := UInt64.ofNat 0 } })).fst, inf := false }, true))))
                                        (.br ((f1 (f2 (f3 (f3 { c0 := f0 (n % UInt64.ofNat 1000 + UInt64.ofNat 19), c1 := f0 (n / UInt64.ofNat 1000 % UInt64.ofNat 1000) } { c0 := f0 (n % UInt64.ofNat 1000 + UInt64.ofNat 19), c1 := f0 (n / UInt64.ofNat 1000 % UInt64.ofNat 1000) }) { c0 := f0 (n % UInt64.ofNat 1000 + UInt64.ofNat 19), c1 := f0 (n / UInt64.ofNat 1000 % UInt64.ofNat 1000) }) { c0 := { l0 := UInt64.ofNat 4, l1 := UInt64.ofNat 0, l2 := UInt64.ofNat 0, l3 := UInt64.ofNat 0, l4 := UInt64.ofNat 0, l5 := UInt64.ofNat 0 }, c1 := { l0 := UInt64.ofNat 4, l1 := UInt64.ofNat 0, l2 := UInt64.ofNat 0, l3 := UInt64.ofNat 0, l4 := UInt64.ofNat 0, l5 := UInt64.ofNat 0 } })).snd)
                                          (.leaf (some (({ x := { c0 := f0 (n % UInt64.ofNat 1000 + UInt64.ofNat 19), c1 := f0 (n / UInt64.ofNat 1000 % UInt64.ofNat 1000) }, y := (f1 (f2 (f3 (f3 { c0 := f0 (n % UInt64.ofNat 1000 + UInt64.ofNat 19), c1 := f0 (n / UInt64.ofNat 1000 % UInt64.ofNat 1000) } { c0 := f0 (n % UInt64.ofNat 1000 + UInt64.ofNat 19), c1 := f0 (n / UInt64.ofNat 1000 % UInt64.ofNat 1000) }) { c0 := f0 (n % UInt64.ofNat 1000 + UInt64.ofNat 19), c1 := f0 (n / UInt64.ofNat 1000 % UInt64.ofNat 1000) }) { c0 := { l0 := UInt64.ofNat 4, l1 := UInt64.ofNat 0, l2 := UInt64.ofNat 0, l3 := UInt64.ofNat 0, l4 := UInt64.ofNat 0, l5 := UInt64.ofNat 0 }, c1 := { l0 := UInt64.ofNat 4, l1 := UInt64.ofNat 0, l2 := UInt64.ofNat 0, l3 := UInt64.ofNat 0, l4 := UInt64.ofNat 0, l5 := UInt64.ofNat 0 } })).fst, inf := false }, true))))
                                          (.leaf (some (({ x := zeroFp2, y := zeroFp2, inf := false }, false))))))))))))))))))))))))
theorem out9_run (f0 : UInt64 → Fp) (f1 : Fp2 → Fp2 × Bool) (f2 : Fp2 → Fp2 → Fp2) (f3 : Fp2 → Fp2 → Fp2) (n : UInt64) : plainRun (En [(63, Kof f0), (77, K1 (kRow Fp2).arg ((kRow Fp2).rs2 kBool).res f1), (78, K2 (kRow Fp2).arg (kRow Fp2).arg (kRow Fp2).rs.res f2), (79, K2 (kRow Fp2).arg (kRow Fp2).arg (kRow Fp2).rs.res f3)]) ((kRow Pg2).rs2 kBool) 300 Tryz.f37 [.one (kU64.av n)] = out9_T f0 f1 f2 f3 n := by kernel_rfl
theorem out9_sat (f0 : UInt64 → Fp) (f1 : Fp2 → Fp2 × Bool) (f2 : Fp2 → Fp2 → Fp2) (f3 : Fp2 → Fp2 → Fp2) (n : UInt64) : (out9_T f0 f1 f2 f3 n).sat fun q => q = some (out9_G f0 f1 f2 f3 n) := ⟨fun h0 => (show some _ = some _ from congrArg some (by unfold out9_G; rw [h0])), fun h0 => ⟨fun h1 => (show some _ = some _ from congrArg some (by unfold out9_G; rw [h0, h1])), fun h1 => ⟨fun h2 => (show some _ = some _ from congrArg some (by unfold out9_G; rw [h0, h1, h2])), fun h2 => ⟨fun h3 => (show some _ = some _ from congrArg some (by unfold out9_G; rw [h0, h1, h2, h3])), fun h3 => ⟨fun h4 => (show some _ = some _ from congrArg some (by unfold out9_G; rw [h0, h1, h2, h3, h4])), fun h4 => ⟨fun h5 => (show some _ = some _ from congrArg some (by unfold out9_G; rw [h0, h1, h2, h3, h4, h5])), fun h5 => ⟨fun h6 => (show some _ = some _ from congrArg some (by unfold out9_G; rw [h0, h1, h2, h3, h4, h5, h6])), fun h6 => ⟨fun h7 => (show some _ = some _ from congrArg some (by unfold out9_G; rw [h0, h1, h2, h3, h4, h5, h6, h7])), fun h7 => ⟨fun h8 => (show some _ = some _ from congrArg some (by unfold out9_G; rw [h0, h1, h2, h3, h4, h5, h6, h7, h8])), fun h8 => ⟨fun h9 => (show some _ = some _ from congrArg some (by unfold out9_G; rw [h0, h1, h2, h3, h4, h5, h6, h7, h8, h9])), fun h9 => ⟨fun h10 => (show some _ = some _ from congrArg some (by unfold out9_G; rw [h0, h1, h2, h3, h4, h5, h6, h7, h8, h9, h10])), fun h10 => ⟨fun h11 => (show some _ = some _ from congrArg some (by unfold out9_G; rw [h0, h1, h2, h3, h4, h5, h6, h7, h8, h9, h10, h11])), fun h11 => ⟨fun h12 => (show some _ = some _ from congrArg some (by unfold out9_G; rw [h0, h1, h2, h3, h4, h5, h6, h7, h8, h9, h10, h11, h12])), fun h12 => ⟨fun h13 => (show some _ = some _ from congrArg some (by unfold out9_G; rw [h0, h1, h2, h3, h4, h5, h6, h7, h8, h9, h10, h11, h12, h13])), fun h13 => ⟨fun h14 => (show some _ = some _ from congrArg some (by unfold out9_G; rw [h0, h1, h2, h3, h4, h5, h6, h7, h8, h9, h10, h11, h12, h13, h14])), fun h14 => ⟨fun h15 => (show some _ = some _ from congrArg some (by unfold out9_G; rw [h0, h1, h2, h3, h4, h5, h6, h7, h8, h9, h10, h11, h12, h13, h14, h15])), fun h15 => ⟨fun h16 => (show some _ = some _ from congrArg some (by unfold out9_G; rw [h0, h1, h2, h3, h4, h5, h6, h7, h8, h9, h10, h11, h12, h13, h14, h15, h16])), fun h16 => ⟨fun h17 => (show some _ = some _ from congrArg some (by unfold out9_G; rw [h0, h1, h2, h3, h4, h5, h6, h7, h8, h9, h10, h11, h12, h13, h14, h15, h16, h17])), fun h17 => ⟨fun h18 => (show some _ = some _ from congrArg some (by unfold out9_G; rw [h0, h1, h2, h3, h4, h5, h6, h7, h8, h9, h10, h11, h12, h13, h14, h15, h16, h17, h18])), fun h18 => ⟨fun h19 => (show some _ = some _ from congrArg some (by unfold out9_G; rw [h0, h1, h2, h3, h4, h5, h6, h7, h8, h9, h10, h11, h12, h13, h14, h15, h16, h17, h18, h19])), fun h19 => (show some _ = some _ from congrArg some (by unfold out9_G; rw [h0, h1, h2, h3, h4, h5, h6, h7, h8, h9, h10, h11, h12, h13, h14, h15, h16, h17, h18, h19]))⟩⟩⟩⟩⟩⟩⟩⟩⟩⟩⟩⟩⟩⟩⟩⟩⟩⟩⟩⟩
def out9 (n : UInt64) : Pg2 × Bool := out9_G ofF sqrt2R add2R mul2R n
theorem out9_ok : CallOk Tryz.prog 37 (K1 kU64.arg ((kRow Pg2).rs2 kBool).res out9) :=
  P1 (En_ok (.cons ofP_ok (.cons sqrt2R_ok (.cons add2R_ok (.cons mul2R_ok .nil))))) Tryz.func37 (bodied Tryz.func37 (by kernel_rfl) (by kernel_rfl)) 300 kU64 ((kRow Pg2).rs2 kBool) out9 (out9_run ofF sqrt2R add2R mul2R) (out9_sat ofF sqrt2R add2R mul2R)
end Go.Proofs.YtbbnabednkopdaaGreat

set_option linter.unusedSimpArgs false
set_option linter.unusedVariables false
namespace Go.Proofs.YtbbnabednkopdaaGreat
open Go.RowKit
theorem outD_br {ρ : Type} (c : Bool) (x y : Tree (Option (ρ × Pr))) (d : ρ) : (Tree.br c x y).outD d = cond c (x.outD d) (y.outD d) := by cases c <;> rfl
theorem outD_vc {ρ : Type} (p : Prop) (x : Tree (Option (ρ × Pr))) (d : ρ) : (Tree.vc p x).outD d = x.outD d := rfl
theorem outD_leaf {ρ : Type} (y : ρ) (p : Pr) (d : ρ) : (Tree.leaf (some (y, p))).outD d = y := rfl
def hdB (l : List UInt8) (t : UInt8) : List UInt8 := l.set 0 (l.getD 0 0 + t)
theorem hdB_len (l : List UInt8) (t : UInt8) : (hdB l t).length = l.length := List.length_set ..
def inf1B : List UInt8 := hdB (List.replicate 48 0) 192
def inf2B : List UInt8 := hdB (List.replicate 96 0) 192
theorem put1F_val (a : Pg1) : put1F a = cond a.inf inf1B (markF (fputF a.x) (false, greatF a.y, ())) := by
  unfold put1F put1_T
  simp only [outD_br, outD_vc, outD_leaf]
  rw [show ∀ x, List.take (fputF a.x).length (markF (fputF a.x) x) = markF (fputF a.x) x from fun x => List.take_of_length_le (Nat.le_of_eq (markF_len _ _))]
  rfl
theorem put2F_val (a : Pg2) : put2F a = cond a.inf inf2B (markF (fputF a.x.c1 ++ fputF a.x.c0) (false, greatF2 a.y, ())) := by
  unfold put2F put2_T
  simp only [outD_br, outD_vc, outD_leaf, whole8]
  rw [← List.length_append, show ∀ x, List.take (fputF a.x.c1 ++ fputF a.x.c0).length (markF (fputF a.x.c1 ++ fputF a.x.c0) x) = markF (fputF a.x.c1 ++ fputF a.x.c0) x from fun x => List.take_of_length_le (Nat.le_of_eq (markF_len _ _))]
  rfl
theorem rput1F_val (a : Pg1) : rput1F a = cond a.inf inf1B (cond (greatPF a.y) (hdB (hdB (fputF a.x) 32) 128) (hdB (fputF a.x) 128)) := by
  unfold rput1F rput1_T
  simp only [outD_br, outD_vc, outD_leaf]
  cases a.inf <;> cases greatPF a.y <;> first
    | rfl
    | exact List.take_of_length_le (by simp only [List.length_set]; exact Nat.le_refl _)
theorem rput2F_val (a : Pg2) : rput2F a = cond a.inf inf2B (cond (great2R a.y) (hdB (hdB (fputF a.x.c1 ++ fputF a.x.c0) 32) 128) (hdB (fputF a.x.c1 ++ fputF a.x.c0) 128)) := by
  unfold rput2F rput2_T
  simp only [outD_br, outD_vc, outD_leaf, whole8]
  cases a.inf <;> cases great2R a.y <;> first
    | rfl
    | exact List.take_of_length_le (by simp only [List.length_set, List.length_append]; exact Nat.le_refl _)
theorem put1F_len (a : Pg1) : (put1F a).length = 48 := by
  rw [put1F_val]
  cases a.inf
  · exact (markF_len _ _).trans (fput_len' _)
  · rfl
theorem put2F_len (a : Pg2) : (put2F a).length = 96 := by
  rw [put2F_val]
  cases a.inf
  · exact (markF_len _ _).trans (by rw [List.length_append, fput_len', fput_len'])
  · rfl
def begun10_T (f0 : Pg1) (f1 : Pg1 → List UInt8) (f2 : List UInt8 → Pg1 × Int) (f3 : Pg2) (f4 : Pg2 → List UInt8) (f5 : List UInt8 → Pg2 × Int) : Tree (Option ((Bool) × Pr)) :=
  (.vc ((0 + (f1 f0).length ≤ (f1 f0).length ∧ (f1 f0).length < 1125899906842624 ∧ 0 = 0 ∧ 1 = 1) ∧ littleB (List.take (f1 f0).length (List.drop 0 (f1 f0))))
    (.vc ((0 + (f4 f3).length ≤ (f4 f3).length ∧ (f4 f3).length < 1125899906842624 ∧ 0 = 0 ∧ 1 = 1) ∧ littleB (List.take (f4 f3).length (List.drop 0 (f4 f3))))
      (.br ((f2 (List.take (f1 f0).length (List.drop 0 (f1 f0)))).snd == 0)
        (.br (pg1Eq ((f2 (List.take (f1 f0).length (List.drop 0 (f1 f0)))).fst) (f0))
          (.br ((f5 (List.take (f4 f3).length (List.drop 0 (f4 f3)))).snd == 0)
            (.leaf (some (((f5 (List.take (f4 f3).length (List.drop 0 (f4 f3)))).fst.x.c0.l0 == f3.x.c0.l0 && ((f5 (List.take (f4 f3).length (List.drop 0 (f4 f3)))).fst.x.c0.l1 == f3.x.c0.l1 && ((f5 (List.take (f4 f3).length (List.drop 0 (f4 f3)))).fst.x.c0.l2 == f3.x.c0.l2 && ((f5 (List.take (f4 f3).length (List.drop 0 (f4 f3)))).fst.x.c0.l3 == f3.x.c0.l3 && ((f5 (List.take (f4 f3).length (List.drop 0 (f4 f3)))).fst.x.c0.l4 == f3.x.c0.l4 && ((f5 (List.take (f4 f3).length (List.drop 0 (f4 f3)))).fst.x.c0.l5 == f3.x.c0.l5 && true))))) && ((f5 (List.take (f4 f3).length (List.drop 0 (f4 f3)))).fst.x.c1.l0 == f3.x.c1.l0 && ((f5 (List.take (f4 f3).length (List.drop 0 (f4 f3)))).fst.x.c1.l1 == f3.x.c1.l1 && ((f5 (List.take (f4 f3).length (List.drop 0 (f4 f3)))).fst.x.c1.l2 == f3.x.c1.l2 && ((f5 (List.take (f4 f3).length (List.drop 0 (f4 f3)))).fst.x.c1.l3 == f3.x.c1.l3 && ((f5 (List.take (f4 f3).length (List.drop 0 (f4 f3)))).fst.x.c1.l4 == f3.x.c1.l4 && ((f5 (List.take (f4 f3).length (List.drop 0 (f4 f3)))).fst.x.c1.l5 == f3.x.c1.l5 && true))))) && true) && ((f5 (List.take (f4 f3).length (List.drop 0 (f4 f3)))).fst.y.c0.l0 == f3.y.c0.l0 && ((f5 (List.take (f4 f3).length (List.drop 0 (f4 f3)))).fst.y.c0.l1 == f3.y.c0.l1 && ((f5 (List.take (f4 f3).length (List.drop 0 (f4 f3)))).fst.y.c0.l2 == f3.y.c0.l2 && ((f5 (List.take (f4 f3).length (List.drop 0 (f4 f3)))).fst.y.c0.l3 == f3.y.c0.l3 && ((f5 (List.take (f4 f3).length (List.drop 0 (f4 f3)))).fst.y.c0.l4 == f3.y.c0.l4 && ((f5 (List.take (f4 f3).length (List.drop 0 (f4 f3)))).fst.y.c0.l5 == f3.y.c0.l5 && true))))) && ((f5 (List.take (f4 f3).length (List.drop 0 (f4 f3)))).fst.y.c1.l0 == f3.y.c1.l0 && ((f5 (List.take (f4 f3).length (List.drop 0 (f4 f3)))).fst.y.c1.l1 == f3.y.c1.l1 && ((f5 (List.take (f4 f3).length (List.drop 0 (f4 f3)))).fst.y.c1.l2 == f3.y.c1.l2 && ((f5 (List.take (f4 f3).length (List.drop 0 (f4 f3)))).fst.y.c1.l3 == f3.y.c1.l3 && ((f5 (List.take (f4 f3).length (List.drop 0 (f4 f3)))).fst.y.c1.l4 == f3.y.c1.l4 && ((f5 (List.take (f4 f3).length (List.drop 0 (f4 f3)))).fst.y.c1.l5 == f3.y.c1.l5 && true))))) && true) && ((f5 (List.take (f4 f3).length (List.drop 0 (f4 f3)))).fst.inf == f3.inf && true)), .t))))
            (.leaf (some ((false, .t)))))
          (.leaf (some ((false, .t)))))
        (.leaf (some ((false, .t)))))))
theorem begun10_run (f0 : Pg1) (f1 : Pg1 → List UInt8) (f2 : List UInt8 → Pg1 × Int) (f3 : Pg2) (f4 : Pg2 → List UInt8) (f5 : List UInt8 → Pg2 × Int) : endT (Ens [(23, K0 (kRow Pg1).rs.res f0), (40, K1 kg1.arg rB f1), (44, K1 aBs ((kRow Pg1).rs2 kInt).out.res f2), (20, K0 (kRow Pg2).rs.res f3), (42, K1 kg2.arg rB f4), (46, K1 aBs ((kRow Pg2).rs2 kInt).out.res f5)] [40, 42]) kBool.rs.out 300 Tryz.f34 (flat (codeOf Tryz.f34)) (startSt Tryz.f34 [] []) = begun10_T f0 f1 f2 f3 f4 f5 := by kernel_rfl
def begun10  : Bool := (begun10_T gen1R put1F take1F gen2R put2F take2F ).outD false
theorem begun10_ok' (h : (begun10_T gen1R put1F take1F gen2R put2F take2F).full = true ∧ (begun10_T gen1R put1F take1F gen2R put2F take2F).okAll) : CallOk Tryz.prog 34 (K0  kBool.rs.out.res begun10) :=
  Go.Proofs.YtbbnabednkopdaaGreat.G0 (E := Ens [(23, K0 (kRow Pg1).rs.res gen1R), (40, K1 kg1.arg rB put1F), (44, K1 aBs ((kRow Pg1).rs2 kInt).out.res take1F), (20, K0 (kRow Pg2).rs.res gen2R), (42, K1 kg2.arg rB put2F), (46, K1 aBs ((kRow Pg2).rs2 kInt).out.res take2F)] [40, 42]) Tryz.func34 (c := codeOf Tryz.f34) (by kernel_rfl) (bodied Tryz.func34 (by kernel_rfl) (by kernel_rfl)) kBool.rs.out begun10 (DoesL.outs (Ens_ok (.cons gen1R_ok (.cons put1_ok (.cons take1F_ok (.cons gen2R_ok (.cons put2_ok (.cons take2F_ok .nil))))))) 300 false (begun10_run gen1R put1F take1F gen2R put2F take2F ) h.1 h.2)
theorem begun10_ok : CallOk Tryz.prog 34 (K0 kBool.rs.res begun10) := begun10_ok' ⟨rfl, by
  unfold begun10_T
  simp only [Tree.okAll, whole8, Pr.holds, implies_true, and_true, true_and, put1F_len, put2F_len, littleB]
  decide⟩
def ptWrites_T (f0 : Bool) (f1 : Fr → Bool) (f2 : Pg1 → Fr → Pg1) (f3 : Pg1) (f4 : Pg2 → Fr → Pg2) (f5 : Pg2) (f6 : UInt64 → Pg1 × Bool) (f7 : UInt64 → Pg2 × Bool) (f8 : Pg1 → Bool) (f9 : Pg2 → Bool) (f10 : Pg1 → List UInt8) (f11 : Pg2 → List UInt8) (f12 : Pg1 → List UInt8) (f13 : Pg2 → List UInt8) (k : Fr) (n : UInt64) (out : Bool) : Tree (Option ((Bool) × Pr)) :=
  (.br (!(f0))
    (.leaf (some ((false, .t))))
    (.br (!(f1 k))
      (.leaf (some ((true, .t))))
      (.br (out)
        (.br (!(f8 (f6 n).fst))
          (.leaf (some ((true, .t))))
          (.br (!(f9 (f7 n).fst))
            (.leaf (some ((true, .t))))
            (.vc (0 + (f10 (f6 n).fst).length ≤ (f10 (f6 n).fst).length)
              (.vc (0 + (f12 (f6 n).fst).length ≤ (f12 (f6 n).fst).length)
                (.br (List.take (f10 (f6 n).fst).length (List.drop 0 (f10 (f6 n).fst)) == List.take (f12 (f6 n).fst).length (List.drop 0 (f12 (f6 n).fst)))
                  (.vc (0 + (f11 (f7 n).fst).length ≤ (f11 (f7 n).fst).length)
                    (.vc (0 + (f13 (f7 n).fst).length ≤ (f13 (f7 n).fst).length)
                      (.br (List.take (f11 (f7 n).fst).length (List.drop 0 (f11 (f7 n).fst)) == List.take (f13 (f7 n).fst).length (List.drop 0 (f13 (f7 n).fst)))
                        (.vc (0 + (f10 { x := { l0 := UInt64.ofNat 0, l1 := UInt64.ofNat 0, l2 := UInt64.ofNat 0, l3 := UInt64.ofNat 0, l4 := UInt64.ofNat 0, l5 := UInt64.ofNat 0 }, y := { l0 := UInt64.ofNat 0, l1 := UInt64.ofNat 0, l2 := UInt64.ofNat 0, l3 := UInt64.ofNat 0, l4 := UInt64.ofNat 0, l5 := UInt64.ofNat 0 }, inf := true }).length ≤ (f10 { x := { l0 := UInt64.ofNat 0, l1 := UInt64.ofNat 0, l2 := UInt64.ofNat 0, l3 := UInt64.ofNat 0, l4 := UInt64.ofNat 0, l5 := UInt64.ofNat 0 }, y := { l0 := UInt64.ofNat 0, l1 := UInt64.ofNat 0, l2 := UInt64.ofNat 0, l3 := UInt64.ofNat 0, l4 := UInt64.ofNat 0, l5 := UInt64.ofNat 0 }, inf := true }).length)
                          (.vc (0 + (f12 { x := { l0 := UInt64.ofNat 0, l1 := UInt64.ofNat 0, l2 := UInt64.ofNat 0, l3 := UInt64.ofNat 0, l4 := UInt64.ofNat 0, l5 := UInt64.ofNat 0 }, y := { l0 := UInt64.ofNat 0, l1 := UInt64.ofNat 0, l2 := UInt64.ofNat 0, l3 := UInt64.ofNat 0, l4 := UInt64.ofNat 0, l5 := UInt64.ofNat 0 }, inf := true }).length ≤ (f12 { x := { l0 := UInt64.ofNat 0, l1 := UInt64.ofNat 0, l2 := UInt64.ofNat 0, l3 := UInt64.ofNat 0, l4 := UInt64.ofNat 0, l5 := UInt64.ofNat 0 }, y := { l0 := UInt64.ofNat 0, l1 := UInt64.ofNat 0, l2 := UInt64.ofNat 0, l3 := UInt64.ofNat 0, l4 := UInt64.ofNat 0, l5 := UInt64.ofNat 0 }, inf := true }).length)
                            (.leaf (some ((List.take (f10 { x := { l0 := UInt64.ofNat 0, l1 := UInt64.ofNat 0, l2 := UInt64.ofNat 0, l3 := UInt64.ofNat 0, l4 := UInt64.ofNat 0, l5 := UInt64.ofNat 0 }, y := { l0 := UInt64.ofNat 0, l1 := UInt64.ofNat 0, l2 := UInt64.ofNat 0, l3 := UInt64.ofNat 0, l4 := UInt64.ofNat 0, l5 := UInt64.ofNat 0 }, inf := true }).length (List.drop 0 (f10 { x := { l0 := UInt64.ofNat 0, l1 := UInt64.ofNat 0, l2 := UInt64.ofNat 0, l3 := UInt64.ofNat 0, l4 := UInt64.ofNat 0, l5 := UInt64.ofNat 0 }, y := { l0 := UInt64.ofNat 0, l1 := UInt64.ofNat 0, l2 := UInt64.ofNat 0, l3 := UInt64.ofNat 0, l4 := UInt64.ofNat 0, l5 := UInt64.ofNat 0 }, inf := true })) == List.take (f12 { x := { l0 := UInt64.ofNat 0, l1 := UInt64.ofNat 0, l2 := UInt64.ofNat 0, l3 := UInt64.ofNat 0, l4 := UInt64.ofNat 0, l5 := UInt64.ofNat 0 }, y := { l0 := UInt64.ofNat 0, l1 := UInt64.ofNat 0, l2 := UInt64.ofNat 0, l3 := UInt64.ofNat 0, l4 := UInt64.ofNat 0, l5 := UInt64.ofNat 0 }, inf := true }).length (List.drop 0 (f12 { x := { l0 := UInt64.ofNat 0, l1 := UInt64.ofNat 0, l2 := UInt64.ofNat 0, l3 := UInt64.ofNat 0, l4 := UInt64.ofNat 0, l5 := UInt64.ofNat 0 }, y := { l0 := UInt64.ofNat 0, l1 := UInt64.ofNat 0, l2 := UInt64.ofNat 0, l3 := UInt64.ofNat 0, l4 := UInt64.ofNat 0, l5 := UInt64.ofNat 0 }, inf := true })), .t))))))
                        (.leaf (some ((false, .t)))))))
                  (.leaf (some ((false, .t)))))))))
        (.br (!(f8 (f2 f3 k)))
          (.leaf (some ((true, .t))))
          (.br (!(f9 (f4 f5 k)))
            (.leaf (some ((true, .t))))
            (.vc (0 + (f10 (f2 f3 k)).length ≤ (f10 (f2 f3 k)).length)
              (.vc (0 + (f12 (f2 f3 k)).length ≤ (f12 (f2 f3 k)).length)
                (.br (List.take (f10 (f2 f3 k)).length (List.drop 0 (f10 (f2 f3 k))) == List.take (f12 (f2 f3 k)).length (List.drop 0 (f12 (f2 f3 k))))
                  (.vc (0 + (f11 (f4 f5 k)).length ≤ (f11 (f4 f5 k)).length)
                    (.vc (0 + (f13 (f4 f5 k)).length ≤ (f13 (f4 f5 k)).length)
                      (.br (List.take (f11 (f4 f5 k)).length (List.drop 0 (f11 (f4 f5 k))) == List.take (f13 (f4 f5 k)).length (List.drop 0 (f13 (f4 f5 k))))
                        (.vc (0 + (f10 { x := { l0 := UInt64.ofNat 0, l1 := UInt64.ofNat 0, l2 := UInt64.ofNat 0, l3 := UInt64.ofNat 0, l4 := UInt64.ofNat 0, l5 := UInt64.ofNat 0 }, y := { l0 := UInt64.ofNat 0, l1 := UInt64.ofNat 0, l2 := UInt64.ofNat 0, l3 := UInt64.ofNat 0, l4 := UInt64.ofNat 0, l5 := UInt64.ofNat 0 }, inf := true }).length ≤ (f10 { x := { l0 := UInt64.ofNat 0, l1 := UInt64.ofNat 0, l2 := UInt64.ofNat 0, l3 := UInt64.ofNat 0, l4 := UInt64.ofNat 0, l5 := UInt64.ofNat 0 }, y := { l0 := UInt64.ofNat 0, l1 := UInt64.ofNat 0, l2 := UInt64.ofNat 0, l3 := UInt64.ofNat 0, l4 := UInt64.ofNat 0, l5 := UInt64.ofNat 0 }, inf := true }).length)
                          (.vc (0 + (f12 { x := { l0 := UInt64.ofNat 0, l1 := UInt64.ofNat 0, l2 := UInt64.ofNat 0, l3 := UInt64.ofNat 0, l4 := UInt64.ofNat 0, l5 := UInt64.ofNat 0 }, y := { l0 := UInt64.ofNat 0, l1 := UInt64.ofNat 0, l2 := UInt64.ofNat 0, l3 := UInt64.ofNat 0, l4 := UInt64.ofNat 0, l5 := UInt64.ofNat 0 }, inf := true }).length ≤ (f12 { x := { l0 := UInt64.ofNat 0, l1 := UInt64.ofNat 0, l2 := UInt64.ofNat 0, l3 := UInt64.ofNat 0, l4 := UInt64.ofNat 0, l5 := UInt64.ofNat 0 }, y := { l0 := UInt64.ofNat 0, l1 := UInt64.ofNat 0, l2 := UInt64.ofNat 0, l3 := UInt64.ofNat 0, l4 := UInt64.ofNat 0, l5 := UInt64.ofNat 0 }, inf := true }).length)
                            (.leaf (some ((List.take (f10 { x := { l0 := UInt64.ofNat 0, l1 := UInt64.ofNat 0, l2 := UInt64.ofNat 0, l3 := UInt64.ofNat 0, l4 := UInt64.ofNat 0, l5 := UInt64.ofNat 0 }, y := { l0 := UInt64.ofNat 0, l1 := UInt64.ofNat 0, l2 := UInt64.ofNat 0, l3 := UInt64.ofNat 0, l4 := UInt64.ofNat 0, l5 := UInt64.ofNat 0 }, inf := true }).length (List.drop 0 (f10 { x := { l0 := UInt64.ofNat 0, l1 := UInt64.ofNat 0, l2 := UInt64.ofNat 0, l3 := UInt64.ofNat 0, l4 := UInt64.ofNat 0, l5 := UInt64.ofNat 0 }, y := { l0 := UInt64.ofNat 0, l1 := UInt64.ofNat 0, l2 := UInt64.ofNat 0, l3 := UInt64.ofNat 0, l4 := UInt64.ofNat 0, l5 := UInt64.ofNat 0 }, inf := true })) == List.take (f12 { x := { l0 := UInt64.ofNat 0, l1 := UInt64.ofNat 0, l2 := UInt64.ofNat 0, l3 := UInt64.ofNat 0, l4 := UInt64.ofNat 0, l5 := UInt64.ofNat 0 }, y := { l0 := UInt64.ofNat 0, l1 := UInt64.ofNat 0, l2 := UInt64.ofNat 0, l3 := UInt64.ofNat 0, l4 := UInt64.ofNat 0, l5 := UInt64.ofNat 0 }, inf := true }).length (List.drop 0 (f12 { x := { l0 := UInt64.ofNat 0, l1 := UInt64.ofNat 0, l2 := UInt64.ofNat 0, l3 := UInt64.ofNat 0, l4 := UInt64.ofNat 0, l5 := UInt64.ofNat 0 }, y := { l0 := UInt64.ofNat 0, l1 := UInt64.ofNat 0, l2 := UInt64.ofNat 0, l3 := UInt64.ofNat 0, l4 := UInt64.ofNat 0, l5 := UInt64.ofNat 0 }, inf := true })), .t))))))
                        (.leaf (some ((false, .t)))))))
                  (.leaf (some ((false, .t))))))))))))
theorem ptWrites_run (f0 : Bool) (f1 : Fr → Bool) (f2 : Pg1 → Fr → Pg1) (f3 : Pg1) (f4 : Pg2 → Fr → Pg2) (f5 : Pg2) (f6 : UInt64 → Pg1 × Bool) (f7 : UInt64 → Pg2 × Bool) (f8 : Pg1 → Bool) (f9 : Pg2 → Bool) (f10 : Pg1 → List UInt8) (f11 : Pg2 → List UInt8) (f12 : Pg1 → List UInt8) (f13 : Pg2 → List UInt8) (k : Fr) (n : UInt64) (out : Bool) : endT (Ens [(34, K0  kBool.rs.out.res f0), (14, Krb f1), (35, K2 (kRow Pg1).arg (kRow Fr).arg (kRow Pg1).rs.res f2), (23, K0 (kRow Pg1).rs.res f3), (36, K2 (kRow Pg2).arg (kRow Fr).arg (kRow Pg2).rs.res f4), (20, K0 (kRow Pg2).rs.res f5), (28, K1 kU64.arg ((kRow Pg1).rs2 kBool).res f6), (37, K1 kU64.arg ((kRow Pg2).rs2 kBool).res f7), (38, K1 (kRow Pg1).arg kBool.rs.res f8), (39, K1 (kRow Pg2).arg kBool.rs.res f9), (40, K1 kg1.arg rB f10), (42, K1 kg2.arg rB f11), (41, K1 kg1.arg rB f12), (43, K1 kg2.arg rB f13)] [40, 42, 41, 43]) kBool.rs.out 300 Tryz.f7 (flat (codeOf Tryz.f7)) (startSt Tryz.f7 [.one ((kRow Fr).av k), .one (kU64.av n), .one (kBool.av out)] []) = ptWrites_T f0 f1 f2 f3 f4 f5 f6 f7 f8 f9 f10 f11 f12 f13 k n out := by kernel_rfl
def ptWrites (k : Fr) (n : UInt64) (out : Bool) : Bool := (ptWrites_T begun10 mayRF times1R gen1R times2R gen2R out8 out9 on1R on2R put1F put2F rput1F rput2F k n out).outD false
theorem ptWrites_gives' (h : ∀ (k : Fr) (n : UInt64) (out : Bool), (ptWrites_T begun10 mayRF times1R gen1R times2R gen2R out8 out9 on1R on2R put1F put2F rput1F rput2F k n out).full = true ∧ (ptWrites_T begun10 mayRF times1R gen1R times2R gen2R out8 out9 on1R on2R put1F put2F rput1F rput2F k n out).okAll) {w : World} {vk vn vout : Value} {k : Fr} {n : UInt64} {out : Bool} (gk : (kRow Fr).arg.is w vk k) (gn : kU64.arg.is w vn n) (gout : kBool.arg.is w vout out) : Gives Tryz.prog 7 #[vk, vn, vout] w kBool.rs.out.res (ptWrites k n out) :=
  G3g (E := Ens [(34, K0  kBool.rs.out.res begun10), (14, Krb mayRF), (35, K2 (kRow Pg1).arg (kRow Fr).arg (kRow Pg1).rs.res times1R), (23, K0 (kRow Pg1).rs.res gen1R), (36, K2 (kRow Pg2).arg (kRow Fr).arg (kRow Pg2).rs.res times2R), (20, K0 (kRow Pg2).rs.res gen2R), (28, K1 kU64.arg ((kRow Pg1).rs2 kBool).res out8), (37, K1 kU64.arg ((kRow Pg2).rs2 kBool).res out9), (38, K1 (kRow Pg1).arg kBool.rs.res on1R), (39, K1 (kRow Pg2).arg kBool.rs.res on2R), (40, K1 kg1.arg rB put1F), (42, K1 kg2.arg rB put2F), (41, K1 kg1.arg rB rput1F), (43, K1 kg2.arg rB rput2F)] [40, 42, 41, 43]) Tryz.func7 (c := codeOf Tryz.f7) (by kernel_rfl) (kRow Fr).inp kU64.inp kBool.inp kBool.rs.out (ptWrites k n out) gk gn gout fun _ _ _ => DoesL.outs (Ens_ok (.cons begun10_ok (.cons mayR_ok (.cons times1R_ok (.cons gen1R_ok (.cons times2R_ok (.cons gen2R_ok (.cons out8_ok (.cons out9_ok (.cons on1R_ok (.cons on2R_ok (.cons put1_ok (.cons put2_ok (.cons rput1_ok (.cons rput2_ok .nil))))))))))))))) 300 false (ptWrites_run begun10 mayRF times1R gen1R times2R gen2R out8 out9 on1R on2R put1F put2F rput1F rput2F k n out) (h k n out).1 (h k n out).2
end Go.Proofs.YtbbnabednkopdaaGreat

set_option linter.unusedSimpArgs false
set_option linter.unusedVariables false
namespace Go.Proofs.YtbbnabednkopdaaGreat
open Go.RowKit
def bFp1 : Fp := ⟨4, 0, 0, 0, 0, 0⟩
theorem bFp1_v : bFp1.ok ∧ bFp1.v = Crv.b := ⟨ofF_ok 4, by
  show (ofF 4).v = 4
  rw [v_of]
  exact V1.ext (by decide +kernel)⟩
theorem onG1_inf {f0 : Fp → Bool} {f1 : Fp → Fp → Fp} {f2 : Fp → Fp} {p : Pg1} (h : p.inf = true) : onG1_G f0 f1 f2 p = pg1Eq p infG1 := by unfold onG1_G; rw [h]
theorem onG1_aff {f0 : Fp → Bool} {f1 : Fp → Fp → Fp} {f2 : Fp → Fp} {p : Pg1} (h : p.inf = false) : onG1_G f0 f1 f2 p = (f0 p.x && f0 p.y && fpEq (f1 p.y p.y) (f2 p.x)) := by
  unfold onG1_G
  rw [h]
  cases f0 p.x <;> cases f0 p.y <;> rfl
theorem liftG1_inf {f0 : Fp → Fp} {p : Pg1} (h : p.inf = true) : liftG1_G f0 p = zeroSp := by unfold liftG1_G; rw [h]
theorem liftG1_aff {f0 : Fp → Fp} {p : Pg1} (h : p.inf = false) : liftG1_G f0 p = ⟨f0 p.x, f0 p.y, f0 oneFp⟩ := by unfold liftG1_G; rw [h]
theorem negG1_inf {f0 : Fp → Fp} {p : Pg1} (h : p.inf = true) : negG1_G f0 p = p := by unfold negG1_G; rw [h]
theorem negG1_aff {f0 : Fp → Fp} {p : Pg1} (h : p.inf = false) : negG1_G f0 p = ⟨p.x, f0 p.y, false⟩ := by unfold negG1_G; rw [h]
theorem zeroG1_eq (a : Fp) : zeroG1 a = fpEq a zeroFp := by unfold zeroG1 zeroG1_G; rfl
def Pg1.pt (p : Pg1) : Pt V1 := match p.inf with
  | true => .inf
  | false => .aff p.x.v p.y.v
def Pg1.ok (p : Pg1) : Prop := p = infG1 ∨ (p.inf = false ∧ p.x.ok ∧ p.y.ok)
def Pg1.good (p : Pg1) : Prop := p.ok ∧ p.pt.on
theorem pt1_inf {p : Pg1} (h : p.inf = true) : p.pt = .inf := by unfold Pg1.pt; rw [h]
theorem pt1_aff {p : Pg1} (h : p.inf = false) : p.pt = .aff p.x.v p.y.v := by unfold Pg1.pt; rw [h]
theorem good_inf1 : infG1.good := ⟨.inl rfl, trivial⟩
theorem ok_inf1 {p : Pg1} (h : p.ok) (hi : p.inf = true) : p = infG1 := by
  rcases h with h | ⟨h, _⟩
  · exact h
  · rw [hi] at h; cases h
theorem ok_aff1 {p : Pg1} (h : p.ok) (hi : p.inf = false) : p.x.ok ∧ p.y.ok := by
  rcases h with h | ⟨_, h⟩
  · rw [h] at hi; cases hi
  · exact h
theorem pg1_eq {a b : Pg1} (h1 : a.x = b.x) (h2 : a.y = b.y) (h3 : a.inf = b.inf) : a = b := by
  cases a; cases b
  simp_all
theorem good1_mk {x y : Fp} {u v : V1} (hx : x.ok) (hy : y.ok) (ex : x.v = u) (ey : y.v = v) (h : (Pt.aff u v).on) : (⟨x, y, false⟩ : Pg1).good ∧ (⟨x, y, false⟩ : Pg1).pt = .aff u v := by
  subst ex ey
  exact ⟨⟨.inr ⟨rfl, hx, hy⟩, h⟩, rfl⟩
def m1 (a : Fp) : V1 := ri * a.v
theorem m1_add {a b : Fp} (ha : a.ok) (hb : b.ok) : m1 (addF a b) = m1 a + m1 b := by unfold m1; rw [v_add1 ha hb]; exact CR.dist _ _ _
theorem m1_sub {a b : Fp} (ha : a.ok) (hb : b.ok) : m1 (subF a b) = m1 a - m1 b := by unfold m1; rw [v_sub1 ha hb]; grind
theorem m1_half {a b : Fp} (ha : a.ok) (hb : b.ok) : m1 (halfF a b) = m1 a * m1 b := by unfold m1; rw [v_half1 ha hb]; grind
theorem m1_whole {a : Fp} (ha : a.ok) : m1 (wholeF a) = a.v := by
  unfold m1
  rw [v_whole1 ha]
  have := rv_ri
  grind
theorem ri_ne1 : ri ≠ 0 := fun e => one_ne' (K := V1) (by rw [← rv_ri, e]; exact CR.mul_zero _)
theorem m1_zero {a : Fp} (ha : a.ok) : zeroG1 a = true ↔ m1 a = 0 := by
  rw [zeroG1_eq, eq_v1 ha zero_ok1, v_zero1]
  unfold m1
  constructor
  · intro h; rw [h]; exact CR.mul_zero _
  · intro h; exact (mul_eq_zero' h).resolve_left ri_ne1
theorem m1_nonzero {a : Fp} (ha : a.ok) : zeroG1 a = false ↔ m1 a ≠ 0 := by rw [← Bool.not_eq_true, m1_zero ha]
def rel1 (s : Sp1) (p : Pt V1) : Prop := (s.x.ok ∧ s.y.ok ∧ s.z.ok) ∧ Jc (m1 s.x) (m1 s.y) (m1 s.z) p
theorem rel1_mk {x y z : Fp} {p : Pt V1} (hx : x.ok) (hy : y.ok) (hz : z.ok) (h : Jc (m1 x) (m1 y) (m1 z) p) : rel1 ⟨x, y, z⟩ p := ⟨⟨hx, hy, hz⟩, h⟩
theorem rel1_inf : rel1 zeroSp .inf := ⟨⟨zero_ok1, zero_ok1, zero_ok1⟩, by
  show m1 zeroFp = 0
  unfold m1
  rw [v_zero1]
  exact CR.mul_zero _⟩
theorem lift1_rel {p : Pg1} (h : p.good) : rel1 (liftG1 p) p.pt := by
  unfold liftG1
  cases hi : p.inf with
  | true => rw [liftG1_inf hi, pt1_inf hi]; exact rel1_inf
  | false =>
    obtain ⟨hx, hy⟩ := ok_aff1 h.1 hi
    rw [liftG1_aff hi, pt1_aff hi]
    refine rel1_mk (whole_ok1 hx) (whole_ok1 hy) (whole_ok1 one_ok1) ?_
    rw [m1_whole hx, m1_whole hy, m1_whole one_ok1, v_one1]
    exact ⟨one_ne', by grind, by grind⟩
theorem jx_of (x y : V1) : ((x * x + x * x) + x * x) * ((x * x + x * x) + x * x) - ((x * (y * y) + x * (y * y) + (x * (y * y) + x * (y * y))) + (x * (y * y) + x * (y * y) + (x * (y * y) + x * (y * y)))) = jx x y := by unfold jx; grind
theorem jy_of (x y : V1) : ((x * x + x * x) + x * x) * ((x * (y * y) + x * (y * y) + (x * (y * y) + x * (y * y))) - jx x y) - ((y * y * (y * y) + y * y * (y * y) + (y * y * (y * y) + y * y * (y * y))) + (y * y * (y * y) + y * y * (y * y) + (y * y * (y * y) + y * y * (y * y)))) = jy x y := by unfold jy; generalize jx x y = k; grind
theorem jz_of (y z : V1) : y * z + y * z = jz y z := by unfold jz; grind
theorem twice1_rel {s : Sp1} {p : Pt V1} (hp : p.on) (h : rel1 s p) : rel1 (twiceG1 s) (p.add p) := by
  obtain ⟨⟨hx, hy, hz⟩, hj⟩ := h
  have ha := half_ok1 hx hx
  have hb := half_ok1 hy hy
  have hc := half_ok1 hb hb
  have hd := half_ok1 hx hb
  have hd2 := add_ok1 hd hd
  have hd4 := add_ok1 hd2 hd2
  have he := add_ok1 (add_ok1 ha ha) ha
  have hee := half_ok1 he he
  have hd8 := add_ok1 hd4 hd4
  have hX := sub_ok1 hee hd8
  have hc2 := add_ok1 hc hc
  have hc4 := add_ok1 hc2 hc2
  have hc8 := add_ok1 hc4 hc4
  have hyz := half_ok1 hy hz
  have hs := sub_ok1 hd4 hX
  have hes := half_ok1 he hs
  have hj' := twice_all hp hj
  have e1 := m1_sub hee hd8
  rw [m1_half he he, m1_add hd4 hd4, m1_add hd2 hd2, m1_add hd hd, m1_half hx hb, m1_half hy hy, m1_add (add_ok1 ha ha) ha, m1_add ha ha, m1_half hx hx, jx_of] at e1
  have e2 := m1_sub hes hc8
  rw [m1_half he hs, m1_sub hd4 hX, e1, m1_add hc4 hc4, m1_add hc2 hc2, m1_add hc hc, m1_half hb hb, m1_add hd2 hd2, m1_add hd hd, m1_half hx hb, m1_half hy hy, m1_add (add_ok1 ha ha) ha, m1_add ha ha, m1_half hx hx, jy_of] at e2
  have e3 := m1_add hyz hyz
  rw [m1_half hy hz, jz_of] at e3
  unfold twiceG1 twiceG1_G
  refine rel1_mk hX (sub_ok1 hes hc8) (add_ok1 hyz hyz) ?_
  rw [e1, e2, e3]
  exact hj'
section
variable {f0 : Fp → Bool} {f1 f2 f4 : Fp → Fp → Fp} {f3 : Sp1 → Sp1} {s t : Sp1}
theorem plusG1_l (h : f0 s.z = true) : plusG1_G f0 f1 f2 f3 f4 s t = t := by unfold plusG1_G; rw [h]
theorem plusG1_r (h : f0 s.z = false) (h2 : f0 t.z = true) : plusG1_G f0 f1 f2 f3 f4 s t = s := by unfold plusG1_G; rw [h, h2]
theorem plusG1_tw (h : f0 s.z = false) (h2 : f0 t.z = false) (h3 : f0 (f2 (f1 t.x (f1 s.z s.z)) (f1 s.x (f1 t.z t.z))) = true) (h4 : f0 (f2 (f1 t.y (f1 (f1 s.z s.z) s.z)) (f1 s.y (f1 (f1 t.z t.z) t.z))) = true) : plusG1_G f0 f1 f2 f3 f4 s t = f3 s := by
  unfold plusG1_G
  rw [h, h2, h3, h4]
theorem plusG1_no (h : f0 s.z = false) (h2 : f0 t.z = false) (h3 : f0 (f2 (f1 t.x (f1 s.z s.z)) (f1 s.x (f1 t.z t.z))) = true) (h4 : f0 (f2 (f1 t.y (f1 (f1 s.z s.z) s.z)) (f1 s.y (f1 (f1 t.z t.z) t.z))) = false) : plusG1_G f0 f1 f2 f3 f4 s t = zeroSp := by
  unfold plusG1_G
  rw [h, h2, h3, h4]
theorem plusG1_all (h : f0 s.z = false) (h2 : f0 t.z = false) (h3 : f0 (f2 (f1 t.x (f1 s.z s.z)) (f1 s.x (f1 t.z t.z))) = false) : plusG1_G f0 f1 f2 f3 f4 s t = ⟨(f2 (f2 (f1 (f2 (f1 t.y (f1 (f1 s.z s.z) s.z)) (f1 s.y (f1 (f1 t.z t.z) t.z))) (f2 (f1 t.y (f1 (f1 s.z s.z) s.z)) (f1 s.y (f1 (f1 t.z t.z) t.z)))) (f1 (f1 (f2 (f1 t.x (f1 s.z s.z)) (f1 s.x (f1 t.z t.z))) (f2 (f1 t.x (f1 s.z s.z)) (f1 s.x (f1 t.z t.z)))) (f2 (f1 t.x (f1 s.z s.z)) (f1 s.x (f1 t.z t.z))))) (f4 (f1 (f1 s.x (f1 t.z t.z)) (f1 (f2 (f1 t.x (f1 s.z s.z)) (f1 s.x (f1 t.z t.z))) (f2 (f1 t.x (f1 s.z s.z)) (f1 s.x (f1 t.z t.z))))) (f1 (f1 s.x (f1 t.z t.z)) (f1 (f2 (f1 t.x (f1 s.z s.z)) (f1 s.x (f1 t.z t.z))) (f2 (f1 t.x (f1 s.z s.z)) (f1 s.x (f1 t.z t.z))))))), (f2 (f1 (f2 (f1 t.y (f1 (f1 s.z s.z) s.z)) (f1 s.y (f1 (f1 t.z t.z) t.z))) (f2 (f1 (f1 s.x (f1 t.z t.z)) (f1 (f2 (f1 t.x (f1 s.z s.z)) (f1 s.x (f1 t.z t.z))) (f2 (f1 t.x (f1 s.z s.z)) (f1 s.x (f1 t.z t.z))))) (f2 (f2 (f1 (f2 (f1 t.y (f1 (f1 s.z s.z) s.z)) (f1 s.y (f1 (f1 t.z t.z) t.z))) (f2 (f1 t.y (f1 (f1 s.z s.z) s.z)) (f1 s.y (f1 (f1 t.z t.z) t.z)))) (f1 (f1 (f2 (f1 t.x (f1 s.z s.z)) (f1 s.x (f1 t.z t.z))) (f2 (f1 t.x (f1 s.z s.z)) (f1 s.x (f1 t.z t.z)))) (f2 (f1 t.x (f1 s.z s.z)) (f1 s.x (f1 t.z t.z))))) (f4 (f1 (f1 s.x (f1 t.z t.z)) (f1 (f2 (f1 t.x (f1 s.z s.z)) (f1 s.x (f1 t.z t.z))) (f2 (f1 t.x (f1 s.z s.z)) (f1 s.x (f1 t.z t.z))))) (f1 (f1 s.x (f1 t.z t.z)) (f1 (f2 (f1 t.x (f1 s.z s.z)) (f1 s.x (f1 t.z t.z))) (f2 (f1 t.x (f1 s.z s.z)) (f1 s.x (f1 t.z t.z))))))))) (f1 (f1 s.y (f1 (f1 t.z t.z) t.z)) (f1 (f1 (f2 (f1 t.x (f1 s.z s.z)) (f1 s.x (f1 t.z t.z))) (f2 (f1 t.x (f1 s.z s.z)) (f1 s.x (f1 t.z t.z)))) (f2 (f1 t.x (f1 s.z s.z)) (f1 s.x (f1 t.z t.z)))))), (f1 (f1 s.z t.z) (f2 (f1 t.x (f1 s.z s.z)) (f1 s.x (f1 t.z t.z))))⟩ := by
  unfold plusG1_G
  rw [h, h2, h3]
end
theorem px_of (u h r : V1) : r * r - h * h * h - (u * (h * h) + u * (h * h)) = r * r - h * h * h - 2 * (u * (h * h)) := by grind
theorem plus1_rel {s t : Sp1} {p q : Pt V1} (hp : p.on) (hq : q.on) (hs : rel1 s p) (ht : rel1 t q) : rel1 (plusG1 s t) (p.add q) := by
  have hs0 := hs
  have ht0 := ht
  obtain ⟨⟨hx, hy, hz⟩, hj⟩ := hs
  obtain ⟨⟨kx, ky, kz⟩, kj⟩ := ht
  unfold plusG1
  by_cases z1 : m1 s.z = 0
  · rw [plusG1_l ((m1_zero hz).2 z1), hj.inf_of z1, inf_add]
    exact ht0
  by_cases z2 : m1 t.z = 0
  · rw [plusG1_r ((m1_nonzero hz).2 z1) ((m1_zero kz).2 z2), kj.inf_of z2, add_inf]
    exact hs0
  have n1 := (m1_nonzero hz).2 z1
  have n2 := (m1_nonzero kz).2 z2
  have zz := half_ok1 hz hz
  have ww := half_ok1 kz kz
  have zzz := half_ok1 zz hz
  have www := half_ok1 ww kz
  have hu := half_ok1 hx ww
  have hv := half_ok1 kx zz
  have ha := half_ok1 hy www
  have hb := half_ok1 ky zzz
  have hh := sub_ok1 hv hu
  have hr := sub_ok1 hb ha
  have eh : m1 (subF (halfF t.x (halfF s.z s.z)) (halfF s.x (halfF t.z t.z))) = m1 t.x * (m1 s.z * m1 s.z) - m1 s.x * (m1 t.z * m1 t.z) := by
    rw [m1_sub hv hu, m1_half kx zz, m1_half hx ww, m1_half hz hz, m1_half kz kz]
  have er : m1 (subF (halfF t.y (halfF (halfF s.z s.z) s.z)) (halfF s.y (halfF (halfF t.z t.z) t.z))) = m1 t.y * (m1 s.z * m1 s.z * m1 s.z) - m1 s.y * (m1 t.z * m1 t.z * m1 t.z) := by
    rw [m1_sub hb ha, m1_half ky zzz, m1_half hy www, m1_half zz hz, m1_half ww kz, m1_half hz hz, m1_half kz kz]
  by_cases h0 : m1 t.x * (m1 s.z * m1 s.z) - m1 s.x * (m1 t.z * m1 t.z) = 0
  · obtain ⟨c1, c2⟩ := plus_same hp hq hj kj z1 z2 h0
    have n3 := (m1_zero hh).2 (by rw [eh]; exact h0)
    by_cases r0 : m1 t.y * (m1 s.z * m1 s.z * m1 s.z) - m1 s.y * (m1 t.z * m1 t.z * m1 t.z) = 0
    · rw [plusG1_tw n1 n2 n3 ((m1_zero hr).2 (by rw [er]; exact r0)), c1 r0]
      exact twice1_rel hp hs0
    · rw [plusG1_no n1 n2 n3 ((m1_nonzero hr).2 (by rw [er]; exact r0)), c2 r0]
      exact rel1_inf
  · rw [plusG1_all n1 n2 ((m1_nonzero hh).2 (by rw [eh]; exact h0))]
    have key := plus_all hp hq hj kj z1 z2 h0
    have h2 := half_ok1 hh hh
    have h3 := half_ok1 h2 hh
    have hw := half_ok1 hu h2
    have hrr := half_ok1 hr hr
    have hw2 := add_ok1 hw hw
    have hrh := sub_ok1 hrr h3
    have hX := sub_ok1 hrh hw2
    have hwx := sub_ok1 hw hX
    have hrw := half_ok1 hr hwx
    have hah := half_ok1 ha h3
    have hst := half_ok1 hz kz
    have eu : m1 (halfF s.x (halfF t.z t.z)) = m1 s.x * (m1 t.z * m1 t.z) := by rw [m1_half hx ww, m1_half kz kz]
    have ea : m1 (halfF s.y (halfF (halfF t.z t.z) t.z)) = m1 s.y * (m1 t.z * m1 t.z * m1 t.z) := by rw [m1_half hy www, m1_half ww kz, m1_half kz kz]
    have e1 := m1_sub hrh hw2
    rw [m1_sub hrr h3, m1_half hr hr, er, m1_half h2 hh, m1_half hh hh, eh, m1_add hw hw, m1_half hu h2, eu, m1_half hh hh, eh, px_of] at e1
    have e1' : _ = px (m1 s.x) (m1 s.y) (m1 s.z) (m1 t.x) (m1 t.y) (m1 t.z) := e1
    have e2 := m1_sub hrw hah
    rw [m1_half hr hwx, m1_sub hw hX, e1', m1_half hu h2, eu, m1_half hh hh, eh, m1_half ha h3, ea, m1_half h2 hh, m1_half hh hh, eh, er] at e2
    have e3 := m1_half hst hh
    rw [m1_half hz kz, eh] at e3
    refine rel1_mk hX (sub_ok1 hrw hah) (half_ok1 hst hh) ?_
    rw [e1', e2, e3]
    exact key
theorem neg1_pt {a : Pg1} (ha : a.good) : (negG1 a).good ∧ (negG1 a).pt = a.pt.neg := by
  unfold negG1
  cases hi : a.inf with
  | true =>
    rw [negG1_inf hi, pt1_inf hi]
    exact ⟨ha, rfl⟩
  | false =>
    obtain ⟨hx, hy⟩ := ok_aff1 ha.1 hi
    have ho := neg_on ha.2
    rw [pt1_aff hi] at ho ⊢
    rw [negG1_aff hi]
    exact good1_mk hx (neg_ok1 hy) rfl (v_neg1 hy) ho
theorem rhs1_G_eq (f0 f1 : Fp → Fp → Fp) (x : Fp) : rhsG1_G f0 f1 x = f0 (f1 (f1 x x) x) bFp1 := rfl
theorem rhs1_v {x : Fp} (hx : x.ok) : (rhsG1 x).ok ∧ (rhsG1 x).v = x.v * x.v * x.v + Crv.b := by
  have hb : bFp1.ok ∧ bFp1.v = Crv.b := bFp1_v
  have h2 := mul_ok1 hx hx
  have h3 := mul_ok1 h2 hx
  unfold rhsG1
  rw [rhs1_G_eq]
  refine ⟨add_ok1 h3 hb.1, ?_⟩
  rw [v_add1 h3 hb.1, v_mul1 h2 hx, v_mul1 hx hx, hb.2]
theorem on1_iff (p : Pg1) : onG1 p = true ↔ p.good := by
  unfold onG1
  cases hi : p.inf with
  | true =>
    rw [onG1_inf hi, pg1Eq_iff]
    constructor
    · intro h; rw [h]; exact good_inf1
    · intro h; exact ok_inf1 h.1 hi
  | false =>
    rw [onG1_aff hi, Bool.and_eq_true, Bool.and_eq_true, may1_iff, may1_iff]
    constructor
    · rintro ⟨⟨hx, hy⟩, h⟩
      obtain ⟨r1, r2⟩ := rhs1_v hx
      rw [eq_v1 (mul_ok1 hy hy) r1, v_mul1 hy hy, r2] at h
      exact ⟨.inr ⟨hi, hx, hy⟩, by rw [pt1_aff hi]; exact h⟩
    · intro h
      obtain ⟨hx, hy⟩ := ok_aff1 h.1 hi
      obtain ⟨r1, r2⟩ := rhs1_v hx
      refine ⟨⟨hx, hy⟩, ?_⟩
      rw [eq_v1 (mul_ok1 hy hy) r1, v_mul1 hy hy, r2]
      have := h.2
      rw [pt1_aff hi] at this
      exact this
end Go.Proofs.YtbbnabednkopdaaGreat

set_option linter.unusedSimpArgs false
set_option linter.unusedVariables false
namespace Go.Proofs.YtbbnabednkopdaaGreat
open Go.RowKit
def bFp2 : Fp2 := ⟨bFp1, bFp1⟩
theorem bFp2_v : bFp2.ok ∧ bFp2.v = Crv.b := ⟨Fp2.mk_ok bFp1_v.1 bFp1_v.1, Qd.ext' bFp1_v.2 bFp1_v.2⟩
theorem onG2_inf {f0 : Fp2 → Bool} {f1 : Fp2 → Fp2 → Fp2} {f2 : Fp2 → Fp2} {p : Pg2} (h : p.inf = true) : onG2_G f0 f1 f2 p = pg2Eq p infG2 := by unfold onG2_G; rw [h]
theorem onG2_aff {f0 : Fp2 → Bool} {f1 : Fp2 → Fp2 → Fp2} {f2 : Fp2 → Fp2} {p : Pg2} (h : p.inf = false) : onG2_G f0 f1 f2 p = (f0 p.x && f0 p.y && fp2Eq (f1 p.y p.y) (f2 p.x)) := by
  unfold onG2_G
  rw [h]
  cases f0 p.x <;> cases f0 p.y <;> rfl
theorem liftG2_inf {f0 : Fp2 → Fp2} {p : Pg2} (h : p.inf = true) : liftG2_G f0 p = zeroFp6 := by unfold liftG2_G; rw [h]
theorem liftG2_aff {f0 : Fp2 → Fp2} {p : Pg2} (h : p.inf = false) : liftG2_G f0 p = ⟨f0 p.x, f0 p.y, f0 oneFp2⟩ := by unfold liftG2_G; rw [h]
theorem negG2_inf {f0 : Fp2 → Fp2} {p : Pg2} (h : p.inf = true) : negG2_G f0 p = p := by unfold negG2_G; rw [h]
theorem negG2_aff {f0 : Fp2 → Fp2} {p : Pg2} (h : p.inf = false) : negG2_G f0 p = ⟨p.x, f0 p.y, false⟩ := by unfold negG2_G; rw [h]
theorem zeroG2_eq (a : Fp2) : zeroG2 a = fp2Eq a zeroFp2 := by unfold zeroG2 zeroG2_G; rfl
def Pg2.pt (p : Pg2) : Pt V2 := match p.inf with
  | true => .inf
  | false => .aff p.x.v p.y.v
def Pg2.ok (p : Pg2) : Prop := p = infG2 ∨ (p.inf = false ∧ p.x.ok ∧ p.y.ok)
def Pg2.good (p : Pg2) : Prop := p.ok ∧ p.pt.on
theorem pt2_inf {p : Pg2} (h : p.inf = true) : p.pt = .inf := by unfold Pg2.pt; rw [h]
theorem pt2_aff {p : Pg2} (h : p.inf = false) : p.pt = .aff p.x.v p.y.v := by unfold Pg2.pt; rw [h]
theorem good_inf2 : infG2.good := ⟨.inl rfl, trivial⟩
theorem ok_inf2 {p : Pg2} (h : p.ok) (hi : p.inf = true) : p = infG2 := by
  rcases h with h | ⟨h, _⟩
  · exact h
  · rw [hi] at h; cases h
theorem ok_aff2 {p : Pg2} (h : p.ok) (hi : p.inf = false) : p.x.ok ∧ p.y.ok := by
  rcases h with h | ⟨_, h⟩
  · rw [h] at hi; cases hi
  · exact h
theorem pg2_eq {a b : Pg2} (h1 : a.x = b.x) (h2 : a.y = b.y) (h3 : a.inf = b.inf) : a = b := by
  cases a; cases b
  simp_all
theorem good2_mk {x y : Fp2} {u v : V2} (hx : x.ok) (hy : y.ok) (ex : x.v = u) (ey : y.v = v) (h : (Pt.aff u v).on) : (⟨x, y, false⟩ : Pg2).good ∧ (⟨x, y, false⟩ : Pg2).pt = .aff u v := by
  subst ex ey
  exact ⟨⟨.inr ⟨rfl, hx, hy⟩, h⟩, rfl⟩
def m2 (a : Fp2) : V2 := ri2 * a.v
theorem m2_add {a b : Fp2} (ha : a.ok) (hb : b.ok) : m2 (addF2 a b) = m2 a + m2 b := by unfold m2; rw [v_add2 ha hb]; exact CR.dist _ _ _
theorem m2_sub {a b : Fp2} (ha : a.ok) (hb : b.ok) : m2 (subF2 a b) = m2 a - m2 b := by unfold m2; rw [v_sub2 ha hb]; grind
theorem m2_half {a b : Fp2} (ha : a.ok) (hb : b.ok) : m2 (halfF2 a b) = m2 a * m2 b := by unfold m2; rw [v_half2 ha hb]; grind
theorem m2_whole {a : Fp2} (ha : a.ok) : m2 (wholeF2 a) = a.v := by
  unfold m2
  rw [v_whole2 ha]
  have := rv_ri2
  grind
theorem ri_ne2 : ri2 ≠ 0 := fun e => one_ne' (K := V2) (by rw [← rv_ri2, e]; exact CR.mul_zero _)
theorem m2_zero {a : Fp2} (ha : a.ok) : zeroG2 a = true ↔ m2 a = 0 := by
  rw [zeroG2_eq, fp2Eq_v ha zero_ok2, v_zero2]
  unfold m2
  constructor
  · intro h; rw [h]; exact CR.mul_zero _
  · intro h; exact (mul_eq_zero' h).resolve_left ri_ne2
theorem m2_nonzero {a : Fp2} (ha : a.ok) : zeroG2 a = false ↔ m2 a ≠ 0 := by rw [← Bool.not_eq_true, m2_zero ha]
def rel2 (s : Fp6) (p : Pt V2) : Prop := (s.c0.ok ∧ s.c1.ok ∧ s.c2.ok) ∧ Jc (m2 s.c0) (m2 s.c1) (m2 s.c2) p
theorem rel2_mk {x y z : Fp2} {p : Pt V2} (hx : x.ok) (hy : y.ok) (hz : z.ok) (h : Jc (m2 x) (m2 y) (m2 z) p) : rel2 ⟨x, y, z⟩ p := ⟨⟨hx, hy, hz⟩, h⟩
theorem rel2_inf : rel2 zeroFp6 .inf := ⟨⟨zero_ok2, zero_ok2, zero_ok2⟩, by
  show m2 zeroFp2 = 0
  unfold m2
  rw [v_zero2]
  exact CR.mul_zero _⟩
theorem lift2_rel {p : Pg2} (h : p.good) : rel2 (liftG2 p) p.pt := by
  unfold liftG2
  cases hi : p.inf with
  | true => rw [liftG2_inf hi, pt2_inf hi]; exact rel2_inf
  | false =>
    obtain ⟨hx, hy⟩ := ok_aff2 h.1 hi
    rw [liftG2_aff hi, pt2_aff hi]
    refine rel2_mk (whole_ok2 hx) (whole_ok2 hy) (whole_ok2 one_ok2) ?_
    rw [m2_whole hx, m2_whole hy, m2_whole one_ok2, v_one2]
    exact ⟨one_ne', by grind, by grind⟩
theorem jx_of2 (x y : V2) : ((x * x + x * x) + x * x) * ((x * x + x * x) + x * x) - ((x * (y * y) + x * (y * y) + (x * (y * y) + x * (y * y))) + (x * (y * y) + x * (y * y) + (x * (y * y) + x * (y * y)))) = jx x y := by unfold jx; grind
theorem jy_of2 (x y : V2) : ((x * x + x * x) + x * x) * ((x * (y * y) + x * (y * y) + (x * (y * y) + x * (y * y))) - jx x y) - ((y * y * (y * y) + y * y * (y * y) + (y * y * (y * y) + y * y * (y * y))) + (y * y * (y * y) + y * y * (y * y) + (y * y * (y * y) + y * y * (y * y)))) = jy x y := by unfold jy; generalize jx x y = k; grind
theorem jz_of2 (y z : V2) : y * z + y * z = jz y z := by unfold jz; grind
theorem twice2_rel {s : Fp6} {p : Pt V2} (hp : p.on) (h : rel2 s p) : rel2 (twiceG2 s) (p.add p) := by
  obtain ⟨⟨hx, hy, hz⟩, hj⟩ := h
  have ha := half_ok2 hx hx
  have hb := half_ok2 hy hy
  have hc := half_ok2 hb hb
  have hd := half_ok2 hx hb
  have hd2 := add_ok2 hd hd
  have hd4 := add_ok2 hd2 hd2
  have he := add_ok2 (add_ok2 ha ha) ha
  have hee := half_ok2 he he
  have hd8 := add_ok2 hd4 hd4
  have hX := sub_ok2 hee hd8
  have hc2 := add_ok2 hc hc
  have hc4 := add_ok2 hc2 hc2
  have hc8 := add_ok2 hc4 hc4
  have hyz := half_ok2 hy hz
  have hs := sub_ok2 hd4 hX
  have hes := half_ok2 he hs
  have hj' := twice_all hp hj
  have e1 := m2_sub hee hd8
  rw [m2_half he he, m2_add hd4 hd4, m2_add hd2 hd2, m2_add hd hd, m2_half hx hb, m2_half hy hy, m2_add (add_ok2 ha ha) ha, m2_add ha ha, m2_half hx hx, jx_of2] at e1
  have e2 := m2_sub hes hc8
  rw [m2_half he hs, m2_sub hd4 hX, e1, m2_add hc4 hc4, m2_add hc2 hc2, m2_add hc hc, m2_half hb hb, m2_add hd2 hd2, m2_add hd hd, m2_half hx hb, m2_half hy hy, m2_add (add_ok2 ha ha) ha, m2_add ha ha, m2_half hx hx, jy_of2] at e2
  have e3 := m2_add hyz hyz
  rw [m2_half hy hz, jz_of2] at e3
  unfold twiceG2 twiceG2_G
  refine rel2_mk hX (sub_ok2 hes hc8) (add_ok2 hyz hyz) ?_
  rw [e1, e2, e3]
  exact hj'
section
variable {f0 : Fp2 → Bool} {f1 f2 f4 : Fp2 → Fp2 → Fp2} {f3 : Fp6 → Fp6} {s t : Fp6}
theorem plusG2_l (h : f0 s.c2 = true) : plusG2_G f0 f1 f2 f3 f4 s t = t := by unfold plusG2_G; rw [h]
theorem plusG2_r (h : f0 s.c2 = false) (h2 : f0 t.c2 = true) : plusG2_G f0 f1 f2 f3 f4 s t = s := by unfold plusG2_G; rw [h, h2]
theorem plusG2_tw (h : f0 s.c2 = false) (h2 : f0 t.c2 = false) (h3 : f0 (f2 (f1 t.c0 (f1 s.c2 s.c2)) (f1 s.c0 (f1 t.c2 t.c2))) = true) (h4 : f0 (f2 (f1 t.c1 (f1 (f1 s.c2 s.c2) s.c2)) (f1 s.c1 (f1 (f1 t.c2 t.c2) t.c2))) = true) : plusG2_G f0 f1 f2 f3 f4 s t = f3 s := by
  unfold plusG2_G
  rw [h, h2, h3, h4]
theorem plusG2_no (h : f0 s.c2 = false) (h2 : f0 t.c2 = false) (h3 : f0 (f2 (f1 t.c0 (f1 s.c2 s.c2)) (f1 s.c0 (f1 t.c2 t.c2))) = true) (h4 : f0 (f2 (f1 t.c1 (f1 (f1 s.c2 s.c2) s.c2)) (f1 s.c1 (f1 (f1 t.c2 t.c2) t.c2))) = false) : plusG2_G f0 f1 f2 f3 f4 s t = zeroFp6 := by
  unfold plusG2_G
  rw [h, h2, h3, h4]
theorem plusG2_all (h : f0 s.c2 = false) (h2 : f0 t.c2 = false) (h3 : f0 (f2 (f1 t.c0 (f1 s.c2 s.c2)) (f1 s.c0 (f1 t.c2 t.c2))) = false) : plusG2_G f0 f1 f2 f3 f4 s t = ⟨(f2 (f2 (f1 (f2 (f1 t.c1 (f1 (f1 s.c2 s.c2) s.c2)) (f1 s.c1 (f1 (f1 t.c2 t.c2) t.c2))) (f2 (f1 t.c1 (f1 (f1 s.c2 s.c2) s.c2)) (f1 s.c1 (f1 (f1 t.c2 t.c2) t.c2)))) (f1 (f1 (f2 (f1 t.c0 (f1 s.c2 s.c2)) (f1 s.c0 (f1 t.c2 t.c2))) (f2 (f1 t.c0 (f1 s.c2 s.c2)) (f1 s.c0 (f1 t.c2 t.c2)))) (f2 (f1 t.c0 (f1 s.c2 s.c2)) (f1 s.c0 (f1 t.c2 t.c2))))) (f4 (f1 (f1 s.c0 (f1 t.c2 t.c2)) (f1 (f2 (f1 t.c0 (f1 s.c2 s.c2)) (f1 s.c0 (f1 t.c2 t.c2))) (f2 (f1 t.c0 (f1 s.c2 s.c2)) (f1 s.c0 (f1 t.c2 t.c2))))) (f1 (f1 s.c0 (f1 t.c2 t.c2)) (f1 (f2 (f1 t.c0 (f1 s.c2 s.c2)) (f1 s.c0 (f1 t.c2 t.c2))) (f2 (f1 t.c0 (f1 s.c2 s.c2)) (f1 s.c0 (f1 t.c2 t.c2))))))), (f2 (f1 (f2 (f1 t.c1 (f1 (f1 s.c2 s.c2) s.c2)) (f1 s.c1 (f1 (f1 t.c2 t.c2) t.c2))) (f2 (f1 (f1 s.c0 (f1 t.c2 t.c2)) (f1 (f2 (f1 t.c0 (f1 s.c2 s.c2)) (f1 s.c0 (f1 t.c2 t.c2))) (f2 (f1 t.c0 (f1 s.c2 s.c2)) (f1 s.c0 (f1 t.c2 t.c2))))) (f2 (f2 (f1 (f2 (f1 t.c1 (f1 (f1 s.c2 s.c2) s.c2)) (f1 s.c1 (f1 (f1 t.c2 t.c2) t.c2))) (f2 (f1 t.c1 (f1 (f1 s.c2 s.c2) s.c2)) (f1 s.c1 (f1 (f1 t.c2 t.c2) t.c2)))) (f1 (f1 (f2 (f1 t.c0 (f1 s.c2 s.c2)) (f1 s.c0 (f1 t.c2 t.c2))) (f2 (f1 t.c0 (f1 s.c2 s.c2)) (f1 s.c0 (f1 t.c2 t.c2)))) (f2 (f1 t.c0 (f1 s.c2 s.c2)) (f1 s.c0 (f1 t.c2 t.c2))))) (f4 (f1 (f1 s.c0 (f1 t.c2 t.c2)) (f1 (f2 (f1 t.c0 (f1 s.c2 s.c2)) (f1 s.c0 (f1 t.c2 t.c2))) (f2 (f1 t.c0 (f1 s.c2 s.c2)) (f1 s.c0 (f1 t.c2 t.c2))))) (f1 (f1 s.c0 (f1 t.c2 t.c2)) (f1 (f2 (f1 t.c0 (f1 s.c2 s.c2)) (f1 s.c0 (f1 t.c2 t.c2))) (f2 (f1 t.c0 (f1 s.c2 s.c2)) (f1 s.c0 (f1 t.c2 t.c2))))))))) (f1 (f1 s.c1 (f1 (f1 t.c2 t.c2) t.c2)) (f1 (f1 (f2 (f1 t.c0 (f1 s.c2 s.c2)) (f1 s.c0 (f1 t.c2 t.c2))) (f2 (f1 t.c0 (f1 s.c2 s.c2)) (f1 s.c0 (f1 t.c2 t.c2)))) (f2 (f1 t.c0 (f1 s.c2 s.c2)) (f1 s.c0 (f1 t.c2 t.c2)))))), (f1 (f1 s.c2 t.c2) (f2 (f1 t.c0 (f1 s.c2 s.c2)) (f1 s.c0 (f1 t.c2 t.c2))))⟩ := by
  unfold plusG2_G
  rw [h, h2, h3]
end
theorem px_of2 (u h r : V2) : r * r - h * h * h - (u * (h * h) + u * (h * h)) = r * r - h * h * h - 2 * (u * (h * h)) := by grind
theorem plus2_rel {s t : Fp6} {p q : Pt V2} (hp : p.on) (hq : q.on) (hs : rel2 s p) (ht : rel2 t q) : rel2 (plusG2 s t) (p.add q) := by
  have hs0 := hs
  have ht0 := ht
  obtain ⟨⟨hx, hy, hz⟩, hj⟩ := hs
  obtain ⟨⟨kx, ky, kz⟩, kj⟩ := ht
  unfold plusG2
  by_cases z1 : m2 s.c2 = 0
  · rw [plusG2_l ((m2_zero hz).2 z1), hj.inf_of z1, inf_add]
    exact ht0
  by_cases z2 : m2 t.c2 = 0
  · rw [plusG2_r ((m2_nonzero hz).2 z1) ((m2_zero kz).2 z2), kj.inf_of z2, add_inf]
    exact hs0
  have n1 := (m2_nonzero hz).2 z1
  have n2 := (m2_nonzero kz).2 z2
  have zz := half_ok2 hz hz
  have ww := half_ok2 kz kz
  have zzz := half_ok2 zz hz
  have www := half_ok2 ww kz
  have hu := half_ok2 hx ww
  have hv := half_ok2 kx zz
  have ha := half_ok2 hy www
  have hb := half_ok2 ky zzz
  have hh := sub_ok2 hv hu
  have hr := sub_ok2 hb ha
  have eh : m2 (subF2 (halfF2 t.c0 (halfF2 s.c2 s.c2)) (halfF2 s.c0 (halfF2 t.c2 t.c2))) = m2 t.c0 * (m2 s.c2 * m2 s.c2) - m2 s.c0 * (m2 t.c2 * m2 t.c2) := by
    rw [m2_sub hv hu, m2_half kx zz, m2_half hx ww, m2_half hz hz, m2_half kz kz]
  have er : m2 (subF2 (halfF2 t.c1 (halfF2 (halfF2 s.c2 s.c2) s.c2)) (halfF2 s.c1 (halfF2 (halfF2 t.c2 t.c2) t.c2))) = m2 t.c1 * (m2 s.c2 * m2 s.c2 * m2 s.c2) - m2 s.c1 * (m2 t.c2 * m2 t.c2 * m2 t.c2) := by
    rw [m2_sub hb ha, m2_half ky zzz, m2_half hy www, m2_half zz hz, m2_half ww kz, m2_half hz hz, m2_half kz kz]
  by_cases h0 : m2 t.c0 * (m2 s.c2 * m2 s.c2) - m2 s.c0 * (m2 t.c2 * m2 t.c2) = 0
  · obtain ⟨c1, c2⟩ := plus_same hp hq hj kj z1 z2 h0
    have n3 := (m2_zero hh).2 (by rw [eh]; exact h0)
    by_cases r0 : m2 t.c1 * (m2 s.c2 * m2 s.c2 * m2 s.c2) - m2 s.c1 * (m2 t.c2 * m2 t.c2 * m2 t.c2) = 0
    · rw [plusG2_tw n1 n2 n3 ((m2_zero hr).2 (by rw [er]; exact r0)), c1 r0]
      exact twice2_rel hp hs0
    · rw [plusG2_no n1 n2 n3 ((m2_nonzero hr).2 (by rw [er]; exact r0)), c2 r0]
      exact rel2_inf
  · rw [plusG2_all n1 n2 ((m2_nonzero hh).2 (by rw [eh]; exact h0))]
    have key := plus_all hp hq hj kj z1 z2 h0
    have h2 := half_ok2 hh hh
    have h3 := half_ok2 h2 hh
    have hw := half_ok2 hu h2
    have hrr := half_ok2 hr hr
    have hw2 := add_ok2 hw hw
    have hrh := sub_ok2 hrr h3
    have hX := sub_ok2 hrh hw2
    have hwx := sub_ok2 hw hX
    have hrw := half_ok2 hr hwx
    have hah := half_ok2 ha h3
    have hst := half_ok2 hz kz
    have eu : m2 (halfF2 s.c0 (halfF2 t.c2 t.c2)) = m2 s.c0 * (m2 t.c2 * m2 t.c2) := by rw [m2_half hx ww, m2_half kz kz]
    have ea : m2 (halfF2 s.c1 (halfF2 (halfF2 t.c2 t.c2) t.c2)) = m2 s.c1 * (m2 t.c2 * m2 t.c2 * m2 t.c2) := by rw [m2_half hy www, m2_half ww kz, m2_half kz kz]
    have e1 := m2_sub hrh hw2
    rw [m2_sub hrr h3, m2_half hr hr, er, m2_half h2 hh, m2_half hh hh, eh, m2_add hw hw, m2_half hu h2, eu, m2_half hh hh, eh, px_of2] at e1
    have e1' : _ = px (m2 s.c0) (m2 s.c1) (m2 s.c2) (m2 t.c0) (m2 t.c1) (m2 t.c2) := e1
    have e2 := m2_sub hrw hah
    rw [m2_half hr hwx, m2_sub hw hX, e1', m2_half hu h2, eu, m2_half hh hh, eh, m2_half ha h3, ea, m2_half h2 hh, m2_half hh hh, eh, er] at e2
    have e3 := m2_half hst hh
    rw [m2_half hz kz, eh] at e3
    refine rel2_mk hX (sub_ok2 hrw hah) (half_ok2 hst hh) ?_
    rw [e1', e2, e3]
    exact key
theorem neg2_pt {a : Pg2} (ha : a.good) : (negG2 a).good ∧ (negG2 a).pt = a.pt.neg := by
  unfold negG2
  cases hi : a.inf with
  | true =>
    rw [negG2_inf hi, pt2_inf hi]
    exact ⟨ha, rfl⟩
  | false =>
    obtain ⟨hx, hy⟩ := ok_aff2 ha.1 hi
    have ho := neg_on ha.2
    rw [pt2_aff hi] at ho ⊢
    rw [negG2_aff hi]
    exact good2_mk hx (neg_ok2 hy) rfl (v_neg2 hy) ho
theorem rhs2_G_eq (f0 f1 : Fp2 → Fp2 → Fp2) (x : Fp2) : rhsG2_G f0 f1 x = f0 (f1 (f1 x x) x) bFp2 := rfl
theorem rhs2_v {x : Fp2} (hx : x.ok) : (rhsG2 x).ok ∧ (rhsG2 x).v = x.v * x.v * x.v + Crv.b := by
  have hb : bFp2.ok ∧ bFp2.v = Crv.b := bFp2_v
  have h2 := mul_ok2 hx hx
  have h3 := mul_ok2 h2 hx
  unfold rhsG2
  rw [rhs2_G_eq]
  refine ⟨add_ok2 h3 hb.1, ?_⟩
  rw [v_add2 h3 hb.1, v_mul2 h2 hx, v_mul2 hx hx, hb.2]
theorem on2_iff (p : Pg2) : onG2 p = true ↔ p.good := by
  unfold onG2
  cases hi : p.inf with
  | true =>
    rw [onG2_inf hi, pg2Eq_iff]
    constructor
    · intro h; rw [h]; exact good_inf2
    · intro h; exact ok_inf2 h.1 hi
  | false =>
    rw [onG2_aff hi, Bool.and_eq_true, Bool.and_eq_true, may2_iff, may2_iff]
    constructor
    · rintro ⟨⟨hx, hy⟩, h⟩
      obtain ⟨r1, r2⟩ := rhs2_v hx
      rw [fp2Eq_v (mul_ok2 hy hy) r1, v_mul2 hy hy, r2] at h
      exact ⟨.inr ⟨hi, hx, hy⟩, by rw [pt2_aff hi]; exact h⟩
    · intro h
      obtain ⟨hx, hy⟩ := ok_aff2 h.1 hi
      obtain ⟨r1, r2⟩ := rhs2_v hx
      refine ⟨⟨hx, hy⟩, ?_⟩
      rw [fp2Eq_v (mul_ok2 hy hy) r1, v_mul2 hy hy, r2]
      have := h.2
      rw [pt2_aff hi] at this
      exact this
end Go.Proofs.YtbbnabednkopdaaGreat

set_option linter.unusedSimpArgs false
set_option linter.unusedVariables false
namespace Go.Proofs.YtbbnabednkopdaaGreat
def qN : Nat := 0x73eda753299d7d483339d80809a1d80553bda402fffe5bfeffffffff00000001
def r4N : Nat := 0x10000000000000000000000000000000000000000000000000000000000000000
def Fr.nat (a : Fr) : Nat := a.l0.toNat + W64 * (a.l1.toNat + W64 * (a.l2.toNat + W64 * (a.l3.toNat)))
theorem Fr.nat_lt (a : Fr) : a.nat < r4N := by
  have h0 := a.l0.toNat_lt
  have h1 := a.l1.toNat_lt
  have h2 := a.l2.toNat_lt
  have h3 := a.l3.toNat_lt
  unfold Fr.nat r4N W64
  omega
theorem Fr.nat_inj {a b : Fr} (h : a.nat = b.nat) : a = b := by
  have h0 := a.l0.toNat_lt
  have h1 := a.l1.toNat_lt
  have h2 := a.l2.toNat_lt
  have h3 := a.l3.toNat_lt
  have k0 := b.l0.toNat_lt
  have k1 := b.l1.toNat_lt
  have k2 := b.l2.toNat_lt
  have k3 := b.l3.toNat_lt
  unfold Fr.nat W64 at h
  have e0 : a.l0 = b.l0 := UInt64.toNat.inj (by omega)
  have e1 : a.l1 = b.l1 := UInt64.toNat.inj (by omega)
  have e2 : a.l2 = b.l2 := UInt64.toNat.inj (by omega)
  have e3 : a.l3 = b.l3 := UInt64.toNat.inj (by omega)
  cases a; cases b
  simp only [] at e0 e1 e2 e3
  subst e0 e1 e2 e3
  rfl
theorem rLimbs_nat : rLimbs.nat = qN := by decide +kernel
def L5.nat (t : L5) : Nat := t.t0.toNat + W64 * (t.t1.toNat + W64 * (t.t2.toNat + W64 * (t.t3.toNat + W64 * (t.t4.toNat))))
theorem L5.nat_low (t : L5) : t.nat = t.low.nat + r4N * t.t4.toNat := by
  unfold L5.nat L5.low Fr.nat r4N W64
  simp only []
  omega
end Go.Proofs.YtbbnabednkopdaaGreat

set_option linter.unusedSimpArgs false
set_option linter.unusedVariables false
namespace Go.Proofs.YtbbnabednkopdaaGreat
open Go.RowKit
theorem list4_val (k : Fr) : valL k.list = k.nat := by
  show valAt [k.l0, k.l1, k.l2, k.l3] 4 = _
  unfold Fr.nat
  simp only [valAt, atF, List.getD_eq_getElem?_getD, List.getElem?_cons_zero, List.getElem?_cons_succ, Option.getD_some, W64]
  omega
theorem times1_pt {s : Sp1} {p : Pt V1} (hp : p.on) (h : rel1 s p) (e : List UInt64) : rel1 (timesG1 s e) (p.mul (valL e)) :=
  dblG_all rel1 hp (fun hq h => twice1_rel hq h) (fun hq k => plus1_rel hq hp k h) e rel1_inf
theorem times2_pt {s : Fp6} {p : Pt V2} (hp : p.on) (h : rel2 s p) (e : List UInt64) : rel2 (timesG2 s e) (p.mul (valL e)) :=
  dblG_all rel2 hp (fun hq h => twice2_rel hq h) (fun hq k => plus2_rel hq hp k h) e rel2_inf
theorem minus1R_inf {f : Fp → Fp} {a : Pg1} (h : a.inf = true) : minus1R_G f a = a := by unfold minus1R_G; rw [h]; rfl
theorem minus1R_aff {f : Fp → Fp} {a : Pg1} (h : a.inf = false) : minus1R_G f a = ⟨a.x, f a.y, false⟩ := by unfold minus1R_G; rw [h]; rfl
theorem minus2R_inf {f : Fp2 → Fp2} {a : Pg2} (h : a.inf = true) : minus2R_G f a = a := by unfold minus2R_G; rw [h]; rfl
theorem minus2R_aff {f : Fp2 → Fp2} {a : Pg2} (h : a.inf = false) : minus2R_G f a = ⟨a.x, f a.y, false⟩ := by unfold minus2R_G; rw [h]; rfl
theorem minus1R_eq (a : Pg1) : minus1R a = negG1 a := by
  unfold minus1R negG1
  cases hi : a.inf with
  | true => rw [minus1R_inf hi, negG1_inf hi]
  | false => rw [minus1R_aff hi, negG1_aff hi, negPF_eq]
theorem minus2R_eq (a : Pg2) : minus2R a = negG2 a := by
  unfold minus2R negG2
  cases hi : a.inf with
  | true => rw [minus2R_inf hi, negG2_inf hi]
  | false => rw [minus2R_aff hi, negG2_aff hi, neg2R_eq]
end Go.Proofs.YtbbnabednkopdaaGreat

set_option linter.unusedSimpArgs false
set_option linter.unusedVariables false
namespace Go.Proofs.YtbbnabednkopdaaGreat
open Go.RowKit
def force {α : Type} (n : Nat) (k : Nat → α) : α := match n with
  | 0 => k 0
  | m + 1 => k (m + 1)
theorem force_eq {α : Type} (n : Nat) (k : Nat → α) : force n k = k n := by cases n <;> rfl
def fcV1 {α : Type} (a : V1) (k : V1 → α) : α := force a.nat fun n => k (V1.of n)
theorem fcV1_eq {α : Type} (a : V1) (k : V1 → α) : fcV1 a k = k a := by unfold fcV1; rw [force_eq, V1.of_nat]
def fcV2 {α : Type} (a : V2) (k : V2 → α) : α := force a.a.nat fun n => force a.b.nat fun m => k ⟨V1.of n, V1.of m⟩
theorem fcV2_eq {α : Type} (a : V2) (k : V2 → α) : fcV2 a k = k a := by unfold fcV2; rw [force_eq, force_eq, V1.of_nat, V1.of_nat]
def goP {K : Type} [Fld K] [Crv K] (fc : K → (K → K × K × K) → K × K × K) (b gx gy : K) (e : List UInt64) : Nat → K → K → K → K × K × K
  | 0, X, Y, Z => (X, Y, Z)
  | n + 1, X, Y, Z => fc (rx b X Y Z X Y Z) fun X' => fc (ry b X Y Z X Y Z) fun Y' => fc (rz b X Y Z X Y Z) fun Z' => match bitAt e n with
    | true => fc (rx b X' Y' Z' gx gy 1) fun X'' => fc (ry b X' Y' Z' gx gy 1) fun Y'' => fc (rz b X' Y' Z' gx gy 1) fun Z'' => goP fc b gx gy e n X'' Y'' Z''
    | false => goP fc b gx gy e n X' Y' Z'
theorem goP_eq {K : Type} [Fld K] [Crv K] {fc : K → (K → K × K × K) → K × K × K} (h : ∀ a k, fc a k = k a) (b gx gy : K) (e : List UInt64) : ∀ (n : Nat) (X Y Z : K),
    goP fc b gx gy e n X Y Z = dblG (fun s => (rx b s.1 s.2.1 s.2.2 s.1 s.2.1 s.2.2, ry b s.1 s.2.1 s.2.2 s.1 s.2.1 s.2.2, rz b s.1 s.2.1 s.2.2 s.1 s.2.1 s.2.2)) (fun s => (rx b s.1 s.2.1 s.2.2 gx gy 1, ry b s.1 s.2.1 s.2.2 gx gy 1, rz b s.1 s.2.1 s.2.2 gx gy 1)) e n (X, Y, Z)
  | 0, X, Y, Z => rfl
  | n + 1, X, Y, Z => by
    simp only [goP, h, dblG]
    cases bitAt e n with
    | true => exact goP_eq h b gx gy e n _ _ _
    | false => exact goP_eq h b gx gy e n _ _ _
theorem order_of {K : Type} [Fld K] [Crv K] {fc : K → (K → K × K × K) → K × K × K} (h : ∀ a k, fc a k = k a) {gx gy : K} (hg : (Pt.aff gx gy).on) (e : List UInt64) (hz : (goP fc Crv.b gx gy e (64 * e.length) 0 1 0).2.2 = 0) : (Pt.aff gx gy).mul (valL e) = .inf := by
  rw [goP_eq h] at hz
  have key := dblG_all (fun (s : K × K × K) p => Pj s.1 s.2.1 s.2.2 p) (p := Pt.aff gx gy) hg (tw := fun s => (rx Crv.b s.1 s.2.1 s.2.2 s.1 s.2.1 s.2.2, ry Crv.b s.1 s.2.1 s.2.2 s.1 s.2.1 s.2.2, rz Crv.b s.1 s.2.1 s.2.2 s.1 s.2.1 s.2.2)) (pl := fun s => (rx Crv.b s.1 s.2.1 s.2.2 gx gy 1, ry Crv.b s.1 s.2.1 s.2.2 gx gy 1, rz Crv.b s.1 s.2.1 s.2.2 gx gy 1))
    (fun hq k => sum_all hq hq k k) (fun hq k => sum_all hq hg k ⟨one_ne', (CR.mul_one _).symm, (CR.mul_one _).symm⟩) e (o := ((0 : K), (1 : K), (0 : K))) ⟨rfl, rfl, one_ne'⟩
  generalize (Pt.aff gx gy).mul (valL e) = p at *
  cases p with
  | inf => rfl
  | aff x y => exact absurd hz key.1
theorem gen1_ok : oneG1.x.ok ∧ oneG1.y.ok := ⟨by unfold Fp.ok; decide +kernel, by unfold Fp.ok; decide +kernel⟩
theorem gen1_aff : oneG1.inf = false := rfl
theorem gen1_on : (Pt.aff oneG1.x.v oneG1.y.v).on := V1.ext (by
  show (oneG1.y.v * oneG1.y.v).nat = (oneG1.x.v * oneG1.x.v * oneG1.x.v + (4 : V1)).nat
  rw [V1.nat_mul, V1.nat_add, V1.nat_mul, V1.nat_mul, Fp.v_nat gen1_ok.1, Fp.v_nat gen1_ok.2]
  decide +kernel)
theorem gen1_good : oneG1.good := ⟨.inr ⟨gen1_aff, gen1_ok⟩, gen1_on⟩
theorem gen1_pt : oneG1.pt = .aff oneG1.x.v oneG1.y.v := pt1_aff gen1_aff
theorem rLimbs_val : valL rLimbs.list = qN := by rw [list4_val, rLimbs_nat]
theorem gen1_order : oneG1.pt.mul qN = .inf := by
  rw [← rLimbs_val, gen1_pt]
  exact order_of (fc := fcV1) fcV1_eq gen1_on rLimbs.list (V1.ext (by decide +kernel))
theorem gen2_ok : oneG2.x.ok ∧ oneG2.y.ok := ⟨⟨by unfold Fp.ok; decide +kernel, by unfold Fp.ok; decide +kernel⟩, ⟨by unfold Fp.ok; decide +kernel, by unfold Fp.ok; decide +kernel⟩⟩
theorem gen2_aff : oneG2.inf = false := rfl
theorem V2.ext_nat {x y : V2} (h : x.a.nat = y.a.nat) (g : x.b.nat = y.b.nat) : x = y := Qd.ext' (V1.ext h) (V1.ext g)
theorem gen2_on : (Pt.aff oneG2.x.v oneG2.y.v).on := V2.ext_nat (by
  show ((oneG2.y.v * oneG2.y.v).a).nat = (oneG2.x.v * oneG2.x.v * oneG2.x.v + bb2).a.nat
  decide +kernel) (by
  show ((oneG2.y.v * oneG2.y.v).b).nat = (oneG2.x.v * oneG2.x.v * oneG2.x.v + bb2).b.nat
  decide +kernel)
theorem gen2_good : oneG2.good := ⟨.inr ⟨gen2_aff, gen2_ok⟩, gen2_on⟩
theorem gen2_pt : oneG2.pt = .aff oneG2.x.v oneG2.y.v := pt2_aff gen2_aff
theorem gen2_order : oneG2.pt.mul qN = .inf := by
  rw [← rLimbs_val, gen2_pt]
  exact order_of (fc := fcV2) fcV2_eq gen2_on rLimbs.list (V2.ext_nat (by decide +kernel) (by decide +kernel))
end Go.Proofs.YtbbnabednkopdaaGreat

set_option linter.unusedSimpArgs false
set_option linter.unusedVariables false
namespace Go.Proofs.YtbbnabednkopdaaGreat
open Go.RowKit
theorem jc_zero {X Y Z : V1} (h : Jc X Y Z .inf) : Z = 0 := h
theorem inG1_def (f0 : Pg1 → Bool) (f1 : Fp → Bool) (f2 : Sp1 → List UInt64 → Sp1) (f3 : Pg1 → Sp1) (f4 : Fr) (a : Pg1) : inG1_G f0 f1 f2 f3 f4 a = (f0 a && f1 (f2 (f3 a) f4.list).z) := by
  unfold inG1_G
  cases f0 a <;> rfl
theorem rel1_none {s : Sp1} {p : Pt V1} (h : rel1 s p) : zeroG1 s.z = true ↔ p = .inf := by
  rw [m1_zero h.1.2.2]
  constructor
  · exact h.2.inf_of
  · intro e
    subst e
    exact jc_zero h.2
theorem in1_iff (a : Pg1) : inG1 a = true ↔ a.good ∧ a.pt.mul qN = .inf := by
  have key : a.good → (zeroG1 (timesG1 (liftG1 a) rLimbs.list).z = true ↔ a.pt.mul qN = .inf) := fun hg => by
    rw [← rLimbs_val]
    exact rel1_none (times1_pt hg.2 (lift1_rel hg) rLimbs.list)
  unfold inG1
  rw [inG1_def, Bool.and_eq_true, on1_iff]
  exact ⟨fun h => ⟨h.1, (key h.1).1 h.2⟩, fun h => ⟨h.1, (key h.1).2 h.2⟩⟩
theorem two_nat : (⟨2, 0, 0, 0⟩ : Fr).nat = 2 := by decide +kernel
end Go.Proofs.YtbbnabednkopdaaGreat

set_option linter.unusedSimpArgs false
set_option linter.unusedVariables false
namespace Go.Proofs.YtbbnabednkopdaaGreat
open Go.RowKit
theorem jc_zero2 {X Y Z : V2} (h : Jc X Y Z .inf) : Z = 0 := h
theorem inG2_def (f0 : Pg2 → Bool) (f1 : Fp2 → Bool) (f2 : Fp6 → List UInt64 → Fp6) (f3 : Pg2 → Fp6) (f4 : Fr) (a : Pg2) : inG2_G f0 f1 f2 f3 f4 a = (f0 a && f1 (f2 (f3 a) f4.list).c2) := by
  unfold inG2_G
  cases f0 a <;> rfl
theorem rel2_none {s : Fp6} {p : Pt V2} (h : rel2 s p) : zeroG2 s.c2 = true ↔ p = .inf := by
  rw [m2_zero h.1.2.2]
  constructor
  · exact h.2.inf_of
  · intro e
    subst e
    exact jc_zero2 h.2
theorem in2_iff (a : Pg2) : inG2 a = true ↔ a.good ∧ a.pt.mul qN = .inf := by
  have key : a.good → (zeroG2 (timesG2 (liftG2 a) rLimbs.list).c2 = true ↔ a.pt.mul qN = .inf) := fun hg => by
    rw [← rLimbs_val]
    exact rel2_none (times2_pt hg.2 (lift2_rel hg) rLimbs.list)
  unfold inG2
  rw [inG2_def, Bool.and_eq_true, on2_iff]
  exact ⟨fun h => ⟨h.1, (key h.1).1 h.2⟩, fun h => ⟨h.1, (key h.1).2 h.2⟩⟩
end Go.Proofs.YtbbnabednkopdaaGreat

set_option linter.unusedSimpArgs false
set_option linter.unusedVariables false
namespace Go.Proofs.YtbbnabednkopdaaGreat
open Go.RowKit
def coreG {X P : Type} (xo : X × Int) (sF : X → X × Bool) (cub : X → X) (isz : X → Bool) (fin : Bool → X → X → P) (inF : P → Bool) (z : P) (high : Bool) : P × Int :=
  cond (xo.2 != 0) (z, xo.2) (cond (!(sF (cub xo.1)).2) (z, 5) (cond (high && isz (sF (cub xo.1)).1) (z, 3) (cond (!inF (fin high xo.1 (sF (cub xo.1)).1)) (z, 6) (fin high xo.1 (sF (cub xo.1)).1, 0))))
def takeV {P : Type} (r : List UInt8 × Bool × Bool × Int) (z i : P) (c : P × Int) : P × Int := cond (r.2.2.2 != 0) (z, r.2.2.2) (cond r.2.1 (i, 0) c)
def twoG (f1 : List UInt8 → Fp × Int) (l : List UInt8) : Fp2 × Int := cond ((f1 (List.take 48 l)).2 != 0) (zeroFp2, (f1 (List.take 48 l)).2) (cond ((f1 (List.drop 48 l)).2 != 0) (zeroFp2, (f1 (List.drop 48 l)).2) (⟨(f1 (List.drop 48 l)).1, (f1 (List.take 48 l)).1⟩, 0))
theorem take1_val (f0 : List UInt8 → Int → List UInt8 × Bool × Bool × Int) (f1 : List UInt8 → Fp × Int) (f2 : Fp → Fp × Bool) (f3 f4 : Fp → Fp → Fp) (f5 : UInt64 → Fp) (f6 : Pg1 → Pg1) (f7 : Pg1 → Bool) (b : List UInt8) :
    (take1F_T f0 f1 f2 f3 f4 f5 f6 f7 b).outD (pg10, 0) = takeV (f0 b 48) pg10 infG1 (coreG (f1 (f0 b 48).1) f2 (fun x => f3 (f4 (f4 x x) x) (f5 4)) (fun y => fpEq y zeroFp) (fun h x y => cond h (f6 ⟨x, y, false⟩) ⟨x, y, false⟩) f7 pg10 (f0 b 48).2.2.1) := by
  unfold take1F_T takeV coreG
  simp only [outD_br, outD_vc, outD_leaf, whole8]
  generalize f0 b 48 = r
  obtain ⟨l, i, h, e⟩ := r
  generalize f1 l = x
  obtain ⟨x, o⟩ := x
  have e4 : f5 (UInt64.ofNat 4) = f5 4 := rfl
  rw [e4]
  generalize f2 (f3 (f4 (f4 x x) x) (f5 4)) = s
  obtain ⟨y, is⟩ := s
  cases h <;> cases is <;> first
    | rfl
    | (cases hz : fpEq y zeroFp <;> rfl)
theorem dropTail (l : List UInt8) : List.take (l.length - 48) (List.drop 48 l) = List.drop 48 l := List.take_of_length_le (by rw [List.length_drop]; exact Nat.le_refl _)
theorem take2_val (f0 : List UInt8 → Int → List UInt8 × Bool × Bool × Int) (f1 : List UInt8 → Fp × Int) (f2 : Fp2 → Fp2 × Bool) (f3 f4 : Fp2 → Fp2 → Fp2) (f6 : Pg2 → Pg2) (f7 : Pg2 → Bool) (b : List UInt8) :
    (take2F_T f0 f1 f2 f3 f4 f6 f7 b).outD (pg20, 0) = takeV (f0 b 96) pg20 infG2 (coreG (twoG f1 (f0 b 96).1) f2 (fun x => f3 (f4 (f4 x x) x) bFp2) (fun y => fp2Eq y zeroFp2) (fun h x y => cond h (f6 ⟨x, y, false⟩) ⟨x, y, false⟩) f7 pg20 (f0 b 96).2.2.1) := by
  unfold take2F_T takeV coreG twoG
  simp only [outD_br, outD_vc, outD_leaf, dropTail, List.drop_zero, List.take_length]
  generalize f0 b 96 = r
  obtain ⟨l, i, h, e⟩ := r
  simp only
  generalize f1 (List.take 48 l) = x
  obtain ⟨x, o⟩ := x
  generalize f1 (List.drop 48 l) = z
  obtain ⟨z, o2⟩ := z
  simp only
  cases hx : (o != 0) with
  | true => simp only [cond_true, hx]; rfl
  | false =>
    cases hz : (o2 != 0) with
    | true => simp only [cond_true, cond_false, hz]; rfl
    | false =>
      simp only [cond_false]
      have e4 : ({ c0 := { l0 := UInt64.ofNat 4, l1 := UInt64.ofNat 0, l2 := UInt64.ofNat 0, l3 := UInt64.ofNat 0, l4 := UInt64.ofNat 0, l5 := UInt64.ofNat 0 }, c1 := { l0 := UInt64.ofNat 4, l1 := UInt64.ofNat 0, l2 := UInt64.ofNat 0, l3 := UInt64.ofNat 0, l4 := UInt64.ofNat 0, l5 := UInt64.ofNat 0 } } : Fp2) = bFp2 := rfl
      rw [e4]
      generalize f2 (f3 (f4 (f4 ⟨z, x⟩ ⟨z, x⟩) ⟨z, x⟩) bFp2) = s
      obtain ⟨y, is⟩ := s
      cases h <;> cases is <;> first
        | rfl
        | (cases hz : fp2Eq y zeroFp2 <;> rfl)
end Go.Proofs.YtbbnabednkopdaaGreat

set_option linter.unusedSimpArgs false
set_option linter.unusedVariables false
namespace Go.Proofs.YtbbnabednkopdaaGreat
open Go.RowKit
theorem u8_all {p : UInt8 → Bool} (h : (List.range 256).all (fun n => p (UInt8.ofNat n)) = true) (b : UInt8) : p b = true := by
  have := List.all_eq_true.1 h b.toNat (List.mem_range.2 b.toNat_lt)
  rwa [UInt8.ofNat_toNat] at this
abbrev cub1 (x : Fp) : Fp := addF (mulF (mulF x x) x) (ofF 4)
abbrev cub2 (x : Fp2) : Fp2 := addF2 (mulF2 (mulF2 x x) x) bFp2
theorem of4 : ofF 4 = bFp1 := (fpEq_iff _ _).1 (by decide +kernel)
theorem cub1_v {x : Fp} (hx : x.ok) : (cub1 x).ok ∧ (cub1 x).v = x.v * x.v * x.v + Crv.b := by
  have h1 : (mulF x x).ok := mul_ok' hx
  have h2 : (mulF (mulF x x) x).ok := mul_ok' h1
  have hb := bFp1_v
  unfold cub1
  rw [of4]
  exact ⟨add_ok' h2 hb.1, by rw [v_add h2 hb.1, v_mul h1 hx, v_mul hx hx, hb.2]⟩
theorem cub2_v {x : Fp2} (hx : x.ok) : (cub2 x).ok ∧ (cub2 x).v = x.v * x.v * x.v + Crv.b := by
  have h1 : (mulF2 x x).ok := mul_ok2 hx hx
  have h2 : (mulF2 (mulF2 x x) x).ok := mul_ok2 h1 hx
  have hb := bFp2_v
  unfold cub2
  exact ⟨add_ok2 h2 hb.1, by rw [v_add2 h2 hb.1, v_mul2 h1 hx, v_mul2 hx hx, hb.2]⟩
theorem neg1_aff (x y : Fp) : negG1 ⟨x, y, false⟩ = ⟨x, negPF y, false⟩ := by rw [← minus1R_eq]; exact minus1R_aff rfl
theorem neg2_aff (x y : Fp2) : negG2 ⟨x, y, false⟩ = ⟨x, neg2R y, false⟩ := by rw [← minus2R_eq]; exact minus2R_aff rfl
abbrev fin1 (h : Bool) (x y : Fp) : Pg1 := cond h (negG1 ⟨x, y, false⟩) ⟨x, y, false⟩
abbrev fin2 (h : Bool) (x y : Fp2) : Pg2 := cond h (negG2 ⟨x, y, false⟩) ⟨x, y, false⟩
abbrev core1 (l : List UInt8) (h : Bool) : Pg1 × Int := coreG (ftakeF l) sqrtF cub1 (fun y => fpEq y zeroFp) fin1 inG1 pg10 h
abbrev core2 (l : List UInt8) (h : Bool) : Pg2 × Int := coreG (twoG ftakeF l) sqrtF2 cub2 (fun y => fp2Eq y zeroFp2) fin2 inG2 pg20 h
theorem take1F_val (b : List UInt8) : take1F b = takeV (bareF b 48) pg10 infG1 (core1 (bareF b 48).1 (bareF b 48).2.2.1) := take1_val bareF ftakeF sqrtF addF mulF ofF negG1 inG1 b
theorem take2F_val (b : List UInt8) : take2F b = takeV (bareF b 96) pg20 infG2 (core2 (bareF b 96).1 (bareF b 96).2.2.1) := take2_val bareF ftakeF sqrtF2 addF2 mulF2 negG2 inG2 b
end Go.Proofs.YtbbnabednkopdaaGreat
