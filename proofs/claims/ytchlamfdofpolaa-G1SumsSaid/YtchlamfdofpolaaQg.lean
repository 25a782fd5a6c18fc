/- The document's points: multiples. -/
import Derived.Test.YtchlamfdofpolaaQd
import Derived.Test.YtchlamfdofpolaaPh
import Derived.Test.YtchlamfdofpolaaRc
set_option linter.unusedSimpArgs false
set_option linter.unusedVariables false
namespace Go.Proofs.Ytchlamfdofpolaa
open Go.RowKit

abbrev kp6 : Kd Fp6 := kRow Fp6
noncomputable abbrev tmRC : List Code := flat (codeOf Try.f64)
noncomputable abbrev tmRB : Code := loopAt Try.f64 0
abbrev Kadd5 (F : Fp6 → Fp6 → Bool → Fp6) : Contract := K3 kp6.arg kp6.arg kBool.arg kp6.rs.res F
noncomputable abbrev tmRE (o : Fp6) (aF : Fp6 → Fp6 → Bool → Fp6) (bF : List UInt64 → Nat → Bool) : Env := En [(110, K0 kp6.rs.res o), (59, Kadd5 aF), (113, Kbit bF)]
def tmRSt (e : List UInt64) (b : Bool) (p x : Fp6) (z : Int) : St := mkSt 30 [(1, inV 0 e), (2, .one (kBool.av b)), (3, ptrV 1), (6, ptrV 2), (7, ptrV 3), (8, vI z)] [inHE eU64 e, own 77 (Row.cs p), own 77 (zeros 36), own 77 (Row.cs x)]
theorem tmR_start (o : Fp6) (aF : Fp6 → Fp6 → Bool → Fp6) (bF : List UInt64 → Nat → Bool) (p : Fp6) (e : List UInt64) (b : Bool) : stageT (tmRE o aF bF) 100 (tmRC.take 3) (startSt Try.f64 [.one (kp6.av p), iL.av 0 e, .one (kBool.av b)] [inHE eU64 e]) [1, 2, 3, 6, 7, 8] [0, 1, 2, 3] =
  (.vc (0 + e.length * 1 ≤ (List.map EK.u64.cell e).length ∧ 0 < 1)
    (.leaf (mkSt 30 [(1, .one (.c (.slc 0 0 (e.length) 1 (.of 0) false))), (2, .one (.c (.bool (b)))), (3, .one (.c (.ptr 1 0))), (6, .one (.c (.ptr 2 0))), (7, .one (.c (.ptr 3 0))), (8, .one (.c (.int .i64 (IntKind.i64.wrap (IntKind.i64.wrap (64 * (↑e.length : Int)) - 1)))))] [.live ⟨false, 0, 1, (.elts .u64 (e : List UInt64)), false⟩, .live ⟨true, 77, 0, (.row (Row.cs (p : Fp6))), false⟩, .live ⟨true, 77, 0, (.row [(.lit .u64 0), (.lit .u64 0), (.lit .u64 0), (.lit .u64 0), (.lit .u64 0), (.lit .u64 0), (.lit .u64 0), (.lit .u64 0), (.lit .u64 0), (.lit .u64 0), (.lit .u64 0), (.lit .u64 0), (.lit .u64 0), (.lit .u64 0), (.lit .u64 0), (.lit .u64 0), (.lit .u64 0), (.lit .u64 0), (.lit .u64 0), (.lit .u64 0), (.lit .u64 0), (.lit .u64 0), (.lit .u64 0), (.lit .u64 0), (.lit .u64 0), (.lit .u64 0), (.lit .u64 0), (.lit .u64 0), (.lit .u64 0), (.lit .u64 0), (.lit .u64 0), (.lit .u64 0), (.lit .u64 0), (.lit .u64 0), (.lit .u64 0), (.lit .u64 0)]), false⟩, .live ⟨true, 77, 0, (.row (Row.cs (o : Fp6))), false⟩]))) := by kernel_rfl
theorem tmR_round (o : Fp6) (aF : Fp6 → Fp6 → Bool → Fp6) (bF : List UInt64 → Nat → Bool) (p x : Fp6) (e : List UInt64) (b : Bool) (z : Int) : roundT (tmRE o aF bF) 100 tmRB (tmRSt e b p x z) (same [1, 2, 3, 6, 7, 8] [0, 1, 2, 3]) =
  (.br (decide (z ≥ 0))
    (.vc (((0 + e.length ≤ e.length ∧ e.length < 1125899906842624 ∧ 0 = 0 ∧ 1 = 1) ∧ 0 ≤ z) ∧ bitIn (List.take e.length (List.drop 0 e)) z.toNat)
      (.br (bF (List.take e.length (List.drop 0 e)) z.toNat)
        (.leaf ((.normal, mkSt 30 [(1, .one (.c (.slc 0 0 (e.length) 1 (.of 0) false))), (2, .one (.c (.bool (b)))), (3, .one (.c (.ptr 1 0))), (6, .one (.c (.ptr 2 0))), (7, .one (.c (.ptr 3 0))), (8, .one (.c (.int .i64 (IntKind.i64.wrap (z - 1)))))] [.live ⟨false, 0, 1, (.elts .u64 (e : List UInt64)), false⟩, .live ⟨true, 77, 0, (.row (Row.cs (p : Fp6))), false⟩, .live ⟨true, 77, 0, (.row [(.lit .u64 0), (.lit .u64 0), (.lit .u64 0), (.lit .u64 0), (.lit .u64 0), (.lit .u64 0), (.lit .u64 0), (.lit .u64 0), (.lit .u64 0), (.lit .u64 0), (.lit .u64 0), (.lit .u64 0), (.lit .u64 0), (.lit .u64 0), (.lit .u64 0), (.lit .u64 0), (.lit .u64 0), (.lit .u64 0), (.lit .u64 0), (.lit .u64 0), (.lit .u64 0), (.lit .u64 0), (.lit .u64 0), (.lit .u64 0), (.lit .u64 0), (.lit .u64 0), (.lit .u64 0), (.lit .u64 0), (.lit .u64 0), (.lit .u64 0), (.lit .u64 0), (.lit .u64 0), (.lit .u64 0), (.lit .u64 0), (.lit .u64 0), (.lit .u64 0)]), false⟩, .live ⟨true, 77, 0, (.row (Row.cs (aF (aF x x b) p b : Fp6))), false⟩])))
        (.leaf ((.normal, mkSt 30 [(1, .one (.c (.slc 0 0 (e.length) 1 (.of 0) false))), (2, .one (.c (.bool (b)))), (3, .one (.c (.ptr 1 0))), (6, .one (.c (.ptr 2 0))), (7, .one (.c (.ptr 3 0))), (8, .one (.c (.int .i64 (IntKind.i64.wrap (z - 1)))))] [.live ⟨false, 0, 1, (.elts .u64 (e : List UInt64)), false⟩, .live ⟨true, 77, 0, (.row (Row.cs (p : Fp6))), false⟩, .live ⟨true, 77, 0, (.row [(.lit .u64 0), (.lit .u64 0), (.lit .u64 0), (.lit .u64 0), (.lit .u64 0), (.lit .u64 0), (.lit .u64 0), (.lit .u64 0), (.lit .u64 0), (.lit .u64 0), (.lit .u64 0), (.lit .u64 0), (.lit .u64 0), (.lit .u64 0), (.lit .u64 0), (.lit .u64 0), (.lit .u64 0), (.lit .u64 0), (.lit .u64 0), (.lit .u64 0), (.lit .u64 0), (.lit .u64 0), (.lit .u64 0), (.lit .u64 0), (.lit .u64 0), (.lit .u64 0), (.lit .u64 0), (.lit .u64 0), (.lit .u64 0), (.lit .u64 0), (.lit .u64 0), (.lit .u64 0), (.lit .u64 0), (.lit .u64 0), (.lit .u64 0), (.lit .u64 0)]), false⟩, .live ⟨true, 77, 0, (.row (Row.cs (aF x x b : Fp6))), false⟩])))))
    (.leaf ((.exit 0, mkSt 30 [(1, .one (.c (.slc 0 0 (e.length) 1 (.of 0) false))), (2, .one (.c (.bool (b)))), (3, .one (.c (.ptr 1 0))), (6, .one (.c (.ptr 2 0))), (7, .one (.c (.ptr 3 0))), (8, .one (.c (.int .i64 (z))))] [.live ⟨false, 0, 1, (.elts .u64 (e : List UInt64)), false⟩, .live ⟨true, 77, 0, (.row (Row.cs (p : Fp6))), false⟩, .live ⟨true, 77, 0, (.row [(.lit .u64 0), (.lit .u64 0), (.lit .u64 0), (.lit .u64 0), (.lit .u64 0), (.lit .u64 0), (.lit .u64 0), (.lit .u64 0), (.lit .u64 0), (.lit .u64 0), (.lit .u64 0), (.lit .u64 0), (.lit .u64 0), (.lit .u64 0), (.lit .u64 0), (.lit .u64 0), (.lit .u64 0), (.lit .u64 0), (.lit .u64 0), (.lit .u64 0), (.lit .u64 0), (.lit .u64 0), (.lit .u64 0), (.lit .u64 0), (.lit .u64 0), (.lit .u64 0), (.lit .u64 0), (.lit .u64 0), (.lit .u64 0), (.lit .u64 0), (.lit .u64 0), (.lit .u64 0), (.lit .u64 0), (.lit .u64 0), (.lit .u64 0), (.lit .u64 0)]), false⟩, .live ⟨true, 77, 0, (.row (Row.cs (x : Fp6))), false⟩])))) := by kernel_rfl
theorem tmR_end (o : Fp6) (aF : Fp6 → Fp6 → Bool → Fp6) (bF : List UInt64 → Nat → Bool) (p x : Fp6) (e : List UInt64) (b : Bool) (z : Int) : endT (tmRE o aF bF) kp6.rs.out 100 Try.f64 (tmRC.drop 4) (tmRSt e b p x z) =
  (.leaf (some ((x, .t)))) := by kernel_rfl

def timesR (p : Fp6) (e : List UInt64) (b : Bool) : Fp6 := dblG (fun x => addS5 x x b) (fun x => addS5 x p b) e (64 * e.length) none5
abbrev TmROk (p : Fp6) (e : List UInt64) (b : Bool) : Type := { q : Int × Fp6 // -1 ≤ q.1 ∧ q.1 < 64 * e.length ∧ dblG (fun x => addS5 x x b) (fun x => addS5 x p b) e (q.1 + 1).toNat q.2 = timesR p e b }
theorem timesR_ok : CallOk Try.prog 64 (K3 kp6.arg aL kBool.arg kp6.rs.res timesR) :=
  Go.Proofs.Ytchlamfdofpolaa.G3 (E := tmRE none5 addS5 bitAt) Try.func64 (c := codeOf Try.f64) (by kernel_rfl) (bodied Try.func64 (by kernel_rfl) (by kernel_rfl)) kp6.inp iL kBool.inp kp6.rs.out timesR fun p e b _ he _ => by
    have hE : EnvOk (tmRE none5 addS5 bitAt) := En_ok (.cons none5_ok (.cons addS5_ok (.cons bit5_ok .nil)))
    have he : e.length < 1125899906842624 := he
    refine DoesL.stageE hE 100 3 _ _ (tmR_start none5 addS5 bitAt p e b) ⟨vcLen e, fun _ => ?_⟩
    have hw : IntKind.i64.wrap (IntKind.i64.wrap (64 * (e.length : Int)) - 1) = 64 * (e.length : Int) - 1 := by rw [IntWalk.i64_in (64 * (e.length : Int)) (by omega), IntWalk.i64_in _ (by omega)]
    rw [hw]
    refine DoesL.blockLoop (B := tmRB) (rest := tmRC.drop 4) (id := 0) (by kernel_rfl) (fun q : TmROk p e b => tmRSt e b p q.1.2 q.1.1) (fun q => (q.1.1 + 1).toNat) ⟨(64 * (e.length : Int) - 1, none5), by simp only []; omega, by simp only []; omega, by
      simp only []
      rw [show (64 * (e.length : Int) - 1 + 1).toNat = 64 * e.length by omega]
      simp only [timesR]⟩ fun q => ?_
    obtain ⟨⟨z, x⟩, h0, h1, h2⟩ := q
    simp only [] at h0 h1 h2
    show Does _ _ (tmRSt e b p x z) _
    refine Does.round hE 100 _ (tmR_round none5 addS5 bitAt p x e b z) ⟨fun h => ?_, fun h => ?_⟩
    · simp only [ge_iff_le, decide_eq_true_eq] at h
      obtain ⟨n, rfl⟩ : ∃ n : Nat, z = (n : Int) := ⟨z.toNat, by omega⟩
      rw [wrap_pred n (by omega), whole, Int.toNat_natCast]
      rw [show ((n : Int) + 1).toNat = n + 1 by omega] at h2
      simp only [dblG] at h2
      refine ⟨⟨⟨okL' he, by omega⟩, by show n < 64 * e.length; omega⟩, fun _ => ⟨fun h3 => ?_, fun h3 => ?_⟩⟩
      all_goals
        have hn : ((n : Int) - 1 + 1).toNat = n := by omega
        rw [h3] at h2
        simp only [] at h2
      · refine ⟨⟨((n : Int) - 1, addS5 (addS5 x x b) p b), ?_, ?_, ?_⟩, ?_, ?_⟩
        · show -1 ≤ (n : Int) - 1; omega
        · show (n : Int) - 1 < 64 * e.length; omega
        · simpa only [hn] using h2
        · show ((n : Int) - 1 + 1).toNat < ((n : Int) + 1).toNat; omega
        · kernel_rfl
      · refine ⟨⟨((n : Int) - 1, addS5 x x b), ?_, ?_, ?_⟩, ?_, ?_⟩
        · show -1 ≤ (n : Int) - 1; omega
        · show (n : Int) - 1 < 64 * e.length; omega
        · simpa only [hn] using h2
        · show ((n : Int) - 1 + 1).toNat < ((n : Int) + 1).toNat; omega
        · kernel_rfl
    · simp only [ge_iff_le, decide_eq_false_iff_not] at h
      obtain rfl : z = -1 := by omega
      exact ⟨rfl, DoesL.ends hE 100 (tmR_end none5 addS5 bitAt p x e b (-1)) (reads_t (by
        rw [show ((-1 : Int) + 1).toNat = 0 from rfl] at h2
        simp only [dblG] at h2
        exact h2))⟩

def times1R_G (f0 : Fp6 → Pg1) (f1 : Fp6 → List UInt64 → Bool → Fp6) (f2 : Pg1 → Fp6) (a : Pg1) (k : Fr) : Pg1 := (f0 (f1 (f2 a) [k.l0, k.l1, k.l2, k.l3] true))
def times1R_T (f0 : Fp6 → Pg1) (f1 : Fp6 → List UInt64 → Bool → Fp6) (f2 : Pg1 → Fp6) (a : Pg1) (k : Fr) : Tree (Option (Pg1)) :=
  (.leaf (some (f0 (f1 (f2 a) [k.l0, k.l1, k.l2, k.l3] true))))
theorem times1R_run (f0 : Fp6 → Pg1) (f1 : Fp6 → List UInt64 → Bool → Fp6) (f2 : Pg1 → Fp6) (a : Pg1) (k : Fr) : plainRun (En [(58, K1 (kRow Fp6).arg (kRow Pg1).rs.res f0), (64, K3 kp6.arg aL kBool.arg kp6.rs.res f1), (60, K1 (kRow Pg1).arg (kRow Fp6).rs.res f2)]) (kRow Pg1).rs 300 Try.f23 [.one ((kRow Pg1).av a), .one ((kRow Fr).av k)] = times1R_T f0 f1 f2 a k := by kernel_rfl
theorem times1R_sat (f0 : Fp6 → Pg1) (f1 : Fp6 → List UInt64 → Bool → Fp6) (f2 : Pg1 → Fp6) (a : Pg1) (k : Fr) : (times1R_T f0 f1 f2 a k).sat fun q => q = some (times1R_G f0 f1 f2 a k) := (show some _ = some _ from rfl)
def times1R (a : Pg1) (k : Fr) : Pg1 := times1R_G to1R timesR of1R a k
theorem times1R_ok : CallOk Try.prog 23 (K2 (kRow Pg1).arg (kRow Fr).arg (kRow Pg1).rs.res times1R) :=
  P2 (En_ok (.cons to1R_ok (.cons timesR_ok (.cons of1R_ok .nil)))) Try.func23 (bodied Try.func23 (by kernel_rfl) (by kernel_rfl)) 300 (kRow Pg1) (kRow Fr) (kRow Pg1).rs times1R (times1R_run to1R timesR of1R) (times1R_sat to1R timesR of1R)
def times2R_G (f0 : Fp6 → Pg2) (f1 : Fp6 → List UInt64 → Bool → Fp6) (f2 : Pg2 → Fp6) (a : Pg2) (k : Fr) : Pg2 := (f0 (f1 (f2 a) [k.l0, k.l1, k.l2, k.l3] false))
def times2R_T (f0 : Fp6 → Pg2) (f1 : Fp6 → List UInt64 → Bool → Fp6) (f2 : Pg2 → Fp6) (a : Pg2) (k : Fr) : Tree (Option (Pg2)) :=
  (.leaf (some (f0 (f1 (f2 a) [k.l0, k.l1, k.l2, k.l3] false))))
theorem times2R_run (f0 : Fp6 → Pg2) (f1 : Fp6 → List UInt64 → Bool → Fp6) (f2 : Pg2 → Fp6) (a : Pg2) (k : Fr) : plainRun (En [(84, K1 (kRow Fp6).arg (kRow Pg2).rs.res f0), (64, K3 kp6.arg aL kBool.arg kp6.rs.res f1), (85, K1 (kRow Pg2).arg (kRow Fp6).rs.res f2)]) (kRow Pg2).rs 300 Try.f43 [.one ((kRow Pg2).av a), .one ((kRow Fr).av k)] = times2R_T f0 f1 f2 a k := by kernel_rfl
theorem times2R_sat (f0 : Fp6 → Pg2) (f1 : Fp6 → List UInt64 → Bool → Fp6) (f2 : Pg2 → Fp6) (a : Pg2) (k : Fr) : (times2R_T f0 f1 f2 a k).sat fun q => q = some (times2R_G f0 f1 f2 a k) := (show some _ = some _ from rfl)
def times2R (a : Pg2) (k : Fr) : Pg2 := times2R_G to2R timesR of2R a k
theorem times2R_ok : CallOk Try.prog 43 (K2 (kRow Pg2).arg (kRow Fr).arg (kRow Pg2).rs.res times2R) :=
  P2 (En_ok (.cons to2R_ok (.cons timesR_ok (.cons of2R_ok .nil)))) Try.func43 (bodied Try.func43 (by kernel_rfl) (by kernel_rfl)) 300 (kRow Pg2) (kRow Fr) (kRow Pg2).rs times2R (times2R_run to2R timesR of2R) (times2R_sat to2R timesR of2R)
def in1R_G (f0 : Fp6 → Pg1) (f1 : Fp6 → List UInt64 → Bool → Fp6) (f2 : Pg1 → Fp6) (f3 : Fr) (a : Pg1) : Bool := (((f0 (f1 (f2 a) [f3.l0, f3.l1, f3.l2, f3.l3] true)).inf))
def in1R_T (f0 : Fp6 → Pg1) (f1 : Fp6 → List UInt64 → Bool → Fp6) (f2 : Pg1 → Fp6) (f3 : Fr) (a : Pg1) : Tree (Option (Bool)) :=
  (.leaf (some (((f0 (f1 (f2 a) [f3.l0, f3.l1, f3.l2, f3.l3] true)).inf))))
theorem in1R_run (f0 : Fp6 → Pg1) (f1 : Fp6 → List UInt64 → Bool → Fp6) (f2 : Pg1 → Fp6) (f3 : Fr) (a : Pg1) : plainRun (Ens [(58, K1 (kRow Fp6).arg (kRow Pg1).rs.res f0), (64, K3 kp6.arg aL kBool.arg kp6.rs.res f1), (60, K1 (kRow Pg1).arg (kRow Fp6).rs.res f2), (54, K0 rS4u f3)] [54]) kBool.rs 300 Try.f33 [.one ((kRow Pg1).av a)] = in1R_T f0 f1 f2 f3 a := by kernel_rfl
theorem in1R_sat (f0 : Fp6 → Pg1) (f1 : Fp6 → List UInt64 → Bool → Fp6) (f2 : Pg1 → Fp6) (f3 : Fr) (a : Pg1) : (in1R_T f0 f1 f2 f3 a).sat fun q => q = some (in1R_G f0 f1 f2 f3 a) := (show some _ = some _ from rfl)
def in1R (a : Pg1) : Bool := in1R_G to1R timesR of1R rLimbs a
theorem in1R_ok : CallOk Try.prog 33 (K1 (kRow Pg1).arg kBool.rs.res in1R) :=
  P1 (Ens_ok (.cons to1R_ok (.cons timesR_ok (.cons of1R_ok (.cons refR_ok .nil))))) Try.func33 (bodied Try.func33 (by kernel_rfl) (by kernel_rfl)) 300 (kRow Pg1) kBool.rs in1R (in1R_run to1R timesR of1R rLimbs) (in1R_sat to1R timesR of1R rLimbs)
def in2R_G (f0 : Fp6 → Pg2) (f1 : Fp6 → List UInt64 → Bool → Fp6) (f2 : Pg2 → Fp6) (f3 : Fr) (a : Pg2) : Bool := (((f0 (f1 (f2 a) [f3.l0, f3.l1, f3.l2, f3.l3] false)).inf))
def in2R_T (f0 : Fp6 → Pg2) (f1 : Fp6 → List UInt64 → Bool → Fp6) (f2 : Pg2 → Fp6) (f3 : Fr) (a : Pg2) : Tree (Option (Bool)) :=
  (.leaf (some (((f0 (f1 (f2 a) [f3.l0, f3.l1, f3.l2, f3.l3] false)).inf))))
theorem in2R_run (f0 : Fp6 → Pg2) (f1 : Fp6 → List UInt64 → Bool → Fp6) (f2 : Pg2 → Fp6) (f3 : Fr) (a : Pg2) : plainRun (Ens [(84, K1 (kRow Fp6).arg (kRow Pg2).rs.res f0), (64, K3 kp6.arg aL kBool.arg kp6.rs.res f1), (85, K1 (kRow Pg2).arg (kRow Fp6).rs.res f2), (54, K0 rS4u f3)] [54]) kBool.rs 300 Try.f51 [.one ((kRow Pg2).av a)] = in2R_T f0 f1 f2 f3 a := by kernel_rfl
theorem in2R_sat (f0 : Fp6 → Pg2) (f1 : Fp6 → List UInt64 → Bool → Fp6) (f2 : Pg2 → Fp6) (f3 : Fr) (a : Pg2) : (in2R_T f0 f1 f2 f3 a).sat fun q => q = some (in2R_G f0 f1 f2 f3 a) := (show some _ = some _ from rfl)
def in2R (a : Pg2) : Bool := in2R_G to2R timesR of2R rLimbs a
theorem in2R_ok : CallOk Try.prog 51 (K1 (kRow Pg2).arg kBool.rs.res in2R) :=
  P1 (Ens_ok (.cons to2R_ok (.cons timesR_ok (.cons of2R_ok (.cons refR_ok .nil))))) Try.func51 (bodied Try.func51 (by kernel_rfl) (by kernel_rfl)) 300 (kRow Pg2) kBool.rs in2R (in2R_run to2R timesR of2R rLimbs) (in2R_sat to2R timesR of2R rLimbs)

end Go.Proofs.Ytchlamfdofpolaa
