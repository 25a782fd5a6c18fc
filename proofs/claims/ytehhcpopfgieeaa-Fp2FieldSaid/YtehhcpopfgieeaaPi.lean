/- Powers in the towers: sixes of pairs. -/
import Derived.Test.YtehhcpopfgieeaaPh
set_option linter.unusedSimpArgs false
set_option linter.unusedVariables false
namespace Go.Proofs.Ytehhcpopfgieeaa
open Go.RowKit

abbrev rF12 : Rs Fp12 := (kRow Fp12).rs
abbrev vF12 (a : Fp12) : AV := .one ((kRow Fp12).av a)
abbrev oF12 : Out Fp12 := rF12.out
abbrev Ks2 (F : Fp12 → Fp12 → Fp12) : Contract := K2 (kRow Fp12).arg (kRow Fp12).arg rF12.res F
def pow12R (a : Fp12) (e : List UInt64) : Fp12 := powG mul12R a e (64 * e.length) one12R
noncomputable abbrev pow12RC : List Code := flat (codeOf Try.f62)
noncomputable abbrev pow12RB : Code := loopAt Try.f62 0
noncomputable abbrev pow12RE (o : Fp12) (mF : Fp12 → Fp12 → Fp12) (bF : List UInt64 → Nat → Bool) : Env := En [(97, K0 rF12.res o), (60, Ks2 mF), (98, Kbit bF)]
def pow12RSt (e : List UInt64) (a x : Fp12) (z : Int) : St := mkSt 26 [(1, inV 0 e), (2, ptrV 1), (4, ptrV 2), (5, ptrV 3), (6, vI z)] [inHE eU64 e, own 48 (Row.cs a), own 48 (zeros 72), own 48 (Row.cs x)]
theorem pow12R_start (o : Fp12) (mF : Fp12 → Fp12 → Fp12) (bF : List UInt64 → Nat → Bool) (a : Fp12) (e : List UInt64) : stageT (pow12RE o mF bF) 100 (pow12RC.take 3) (startSt Try.f62 [vF12 a, iL.av 0 e] [inHE eU64 e]) [1, 2, 4, 5, 6] [0, 1, 2, 3] =
  (.vc (0 + e.length * 1 ≤ (List.map EK.u64.cell e).length ∧ 0 < 1)
    (.leaf (mkSt 26 [(1, .one (.c (.slc 0 0 (e.length) 1 (.of 0) false))), (2, .one (.c (.ptr 1 0))), (4, .one (.c (.ptr 2 0))), (5, .one (.c (.ptr 3 0))), (6, .one (.c (.int .i64 (IntKind.i64.wrap (IntKind.i64.wrap (64 * (↑e.length : Int)) - 1)))))] [.live ⟨false, 0, 1, (.elts .u64 (e : List UInt64)), false⟩, .live ⟨true, 48, 0, (.row (Row.cs (a : Fp12))), false⟩, .live ⟨true, 48, 0, (.row [(.lit .u64 0), (.lit .u64 0), (.lit .u64 0), (.lit .u64 0), (.lit .u64 0), (.lit .u64 0), (.lit .u64 0), (.lit .u64 0), (.lit .u64 0), (.lit .u64 0), (.lit .u64 0), (.lit .u64 0), (.lit .u64 0), (.lit .u64 0), (.lit .u64 0), (.lit .u64 0), (.lit .u64 0), (.lit .u64 0), (.lit .u64 0), (.lit .u64 0), (.lit .u64 0), (.lit .u64 0), (.lit .u64 0), (.lit .u64 0), (.lit .u64 0), (.lit .u64 0), (.lit .u64 0), (.lit .u64 0), (.lit .u64 0), (.lit .u64 0), (.lit .u64 0), (.lit .u64 0), (.lit .u64 0), (.lit .u64 0), (.lit .u64 0), (.lit .u64 0), (.lit .u64 0), (.lit .u64 0), (.lit .u64 0), (.lit .u64 0), (.lit .u64 0), (.lit .u64 0), (.lit .u64 0), (.lit .u64 0), (.lit .u64 0), (.lit .u64 0), (.lit .u64 0), (.lit .u64 0), (.lit .u64 0), (.lit .u64 0), (.lit .u64 0), (.lit .u64 0), (.lit .u64 0), (.lit .u64 0), (.lit .u64 0), (.lit .u64 0), (.lit .u64 0), (.lit .u64 0), (.lit .u64 0), (.lit .u64 0), (.lit .u64 0), (.lit .u64 0), (.lit .u64 0), (.lit .u64 0), (.lit .u64 0), (.lit .u64 0), (.lit .u64 0), (.lit .u64 0), (.lit .u64 0), (.lit .u64 0), (.lit .u64 0), (.lit .u64 0)]), false⟩, .live ⟨true, 48, 0, (.row (Row.cs (o : Fp12))), false⟩]))) := by kernel_rfl
theorem pow12R_round (o : Fp12) (mF : Fp12 → Fp12 → Fp12) (bF : List UInt64 → Nat → Bool) (a x : Fp12) (e : List UInt64) (z : Int) : roundT (pow12RE o mF bF) 100 pow12RB (pow12RSt e a x z) (same [1, 2, 4, 5, 6] [0, 1, 2, 3]) =
  (.br (decide (z ≥ 0))
    (.vc (((0 + e.length ≤ e.length ∧ e.length < 1125899906842624 ∧ 0 = 0 ∧ 1 = 1) ∧ 0 ≤ z) ∧ bitIn (List.take e.length (List.drop 0 e)) z.toNat)
      (.br (bF (List.take e.length (List.drop 0 e)) z.toNat)
        (.leaf ((.normal, mkSt 26 [(1, .one (.c (.slc 0 0 (e.length) 1 (.of 0) false))), (2, .one (.c (.ptr 1 0))), (4, .one (.c (.ptr 2 0))), (5, .one (.c (.ptr 3 0))), (6, .one (.c (.int .i64 (IntKind.i64.wrap (z - 1)))))] [.live ⟨false, 0, 1, (.elts .u64 (e : List UInt64)), false⟩, .live ⟨true, 48, 0, (.row (Row.cs (a : Fp12))), false⟩, .live ⟨true, 48, 0, (.row [(.lit .u64 0), (.lit .u64 0), (.lit .u64 0), (.lit .u64 0), (.lit .u64 0), (.lit .u64 0), (.lit .u64 0), (.lit .u64 0), (.lit .u64 0), (.lit .u64 0), (.lit .u64 0), (.lit .u64 0), (.lit .u64 0), (.lit .u64 0), (.lit .u64 0), (.lit .u64 0), (.lit .u64 0), (.lit .u64 0), (.lit .u64 0), (.lit .u64 0), (.lit .u64 0), (.lit .u64 0), (.lit .u64 0), (.lit .u64 0), (.lit .u64 0), (.lit .u64 0), (.lit .u64 0), (.lit .u64 0), (.lit .u64 0), (.lit .u64 0), (.lit .u64 0), (.lit .u64 0), (.lit .u64 0), (.lit .u64 0), (.lit .u64 0), (.lit .u64 0), (.lit .u64 0), (.lit .u64 0), (.lit .u64 0), (.lit .u64 0), (.lit .u64 0), (.lit .u64 0), (.lit .u64 0), (.lit .u64 0), (.lit .u64 0), (.lit .u64 0), (.lit .u64 0), (.lit .u64 0), (.lit .u64 0), (.lit .u64 0), (.lit .u64 0), (.lit .u64 0), (.lit .u64 0), (.lit .u64 0), (.lit .u64 0), (.lit .u64 0), (.lit .u64 0), (.lit .u64 0), (.lit .u64 0), (.lit .u64 0), (.lit .u64 0), (.lit .u64 0), (.lit .u64 0), (.lit .u64 0), (.lit .u64 0), (.lit .u64 0), (.lit .u64 0), (.lit .u64 0), (.lit .u64 0), (.lit .u64 0), (.lit .u64 0), (.lit .u64 0)]), false⟩, .live ⟨true, 48, 0, (.row (Row.cs (mF (mF x x) a : Fp12))), false⟩])))
        (.leaf ((.normal, mkSt 26 [(1, .one (.c (.slc 0 0 (e.length) 1 (.of 0) false))), (2, .one (.c (.ptr 1 0))), (4, .one (.c (.ptr 2 0))), (5, .one (.c (.ptr 3 0))), (6, .one (.c (.int .i64 (IntKind.i64.wrap (z - 1)))))] [.live ⟨false, 0, 1, (.elts .u64 (e : List UInt64)), false⟩, .live ⟨true, 48, 0, (.row (Row.cs (a : Fp12))), false⟩, .live ⟨true, 48, 0, (.row [(.lit .u64 0), (.lit .u64 0), (.lit .u64 0), (.lit .u64 0), (.lit .u64 0), (.lit .u64 0), (.lit .u64 0), (.lit .u64 0), (.lit .u64 0), (.lit .u64 0), (.lit .u64 0), (.lit .u64 0), (.lit .u64 0), (.lit .u64 0), (.lit .u64 0), (.lit .u64 0), (.lit .u64 0), (.lit .u64 0), (.lit .u64 0), (.lit .u64 0), (.lit .u64 0), (.lit .u64 0), (.lit .u64 0), (.lit .u64 0), (.lit .u64 0), (.lit .u64 0), (.lit .u64 0), (.lit .u64 0), (.lit .u64 0), (.lit .u64 0), (.lit .u64 0), (.lit .u64 0), (.lit .u64 0), (.lit .u64 0), (.lit .u64 0), (.lit .u64 0), (.lit .u64 0), (.lit .u64 0), (.lit .u64 0), (.lit .u64 0), (.lit .u64 0), (.lit .u64 0), (.lit .u64 0), (.lit .u64 0), (.lit .u64 0), (.lit .u64 0), (.lit .u64 0), (.lit .u64 0), (.lit .u64 0), (.lit .u64 0), (.lit .u64 0), (.lit .u64 0), (.lit .u64 0), (.lit .u64 0), (.lit .u64 0), (.lit .u64 0), (.lit .u64 0), (.lit .u64 0), (.lit .u64 0), (.lit .u64 0), (.lit .u64 0), (.lit .u64 0), (.lit .u64 0), (.lit .u64 0), (.lit .u64 0), (.lit .u64 0), (.lit .u64 0), (.lit .u64 0), (.lit .u64 0), (.lit .u64 0), (.lit .u64 0), (.lit .u64 0)]), false⟩, .live ⟨true, 48, 0, (.row (Row.cs (mF x x : Fp12))), false⟩])))))
    (.leaf ((.exit 0, mkSt 26 [(1, .one (.c (.slc 0 0 (e.length) 1 (.of 0) false))), (2, .one (.c (.ptr 1 0))), (4, .one (.c (.ptr 2 0))), (5, .one (.c (.ptr 3 0))), (6, .one (.c (.int .i64 (z))))] [.live ⟨false, 0, 1, (.elts .u64 (e : List UInt64)), false⟩, .live ⟨true, 48, 0, (.row (Row.cs (a : Fp12))), false⟩, .live ⟨true, 48, 0, (.row [(.lit .u64 0), (.lit .u64 0), (.lit .u64 0), (.lit .u64 0), (.lit .u64 0), (.lit .u64 0), (.lit .u64 0), (.lit .u64 0), (.lit .u64 0), (.lit .u64 0), (.lit .u64 0), (.lit .u64 0), (.lit .u64 0), (.lit .u64 0), (.lit .u64 0), (.lit .u64 0), (.lit .u64 0), (.lit .u64 0), (.lit .u64 0), (.lit .u64 0), (.lit .u64 0), (.lit .u64 0), (.lit .u64 0), (.lit .u64 0), (.lit .u64 0), (.lit .u64 0), (.lit .u64 0), (.lit .u64 0), (.lit .u64 0), (.lit .u64 0), (.lit .u64 0), (.lit .u64 0), (.lit .u64 0), (.lit .u64 0), (.lit .u64 0), (.lit .u64 0), (.lit .u64 0), (.lit .u64 0), (.lit .u64 0), (.lit .u64 0), (.lit .u64 0), (.lit .u64 0), (.lit .u64 0), (.lit .u64 0), (.lit .u64 0), (.lit .u64 0), (.lit .u64 0), (.lit .u64 0), (.lit .u64 0), (.lit .u64 0), (.lit .u64 0), (.lit .u64 0), (.lit .u64 0), (.lit .u64 0), (.lit .u64 0), (.lit .u64 0), (.lit .u64 0), (.lit .u64 0), (.lit .u64 0), (.lit .u64 0), (.lit .u64 0), (.lit .u64 0), (.lit .u64 0), (.lit .u64 0), (.lit .u64 0), (.lit .u64 0), (.lit .u64 0), (.lit .u64 0), (.lit .u64 0), (.lit .u64 0), (.lit .u64 0), (.lit .u64 0)]), false⟩, .live ⟨true, 48, 0, (.row (Row.cs (x : Fp12))), false⟩])))) := by kernel_rfl
theorem pow12R_end (o : Fp12) (mF : Fp12 → Fp12 → Fp12) (bF : List UInt64 → Nat → Bool) (a x : Fp12) (e : List UInt64) (z : Int) : endT (pow12RE o mF bF) oF12 100 Try.f62 (pow12RC.drop 4) (pow12RSt e a x z) =
  (.leaf (some ((x, .t)))) := by kernel_rfl

abbrev Pow12ROk (mF : Fp12 → Fp12 → Fp12) (o a : Fp12) (e : List UInt64) : Type := { q : Int × Fp12 // -1 ≤ q.1 ∧ q.1 < 64 * e.length ∧ powG mF a e (q.1 + 1).toNat q.2 = powG mF a e (64 * e.length) o }

theorem pow12R_does {mF : Fp12 → Fp12 → Fp12} {o : Fp12} (hE : EnvOk (pow12RE o mF bitAt)) (a : Fp12) (e : List UInt64) (he : e.length < 1125899906842624) :
    DoesL (pow12RE o mF bitAt) pow12RC (startSt Try.f62 [vF12 a, iL.av 0 e] [inHE eU64 e]) (EndsAs (pow12RE o mF bitAt) Try.f62 (Reads oF12 (powG mF a e (64 * e.length) o))) := by
    refine DoesL.stageE hE 100 3 _ _ (pow12R_start o mF bitAt a e) ⟨vcLen e, fun _ => ?_⟩
    have hw : IntKind.i64.wrap (IntKind.i64.wrap (64 * (e.length : Int)) - 1) = 64 * (e.length : Int) - 1 := by rw [IntWalk.i64_in (64 * (e.length : Int)) (by omega), IntWalk.i64_in _ (by omega)]
    rw [hw]
    refine DoesL.blockLoop (B := pow12RB) (rest := pow12RC.drop 4) (id := 0) (by kernel_rfl) (fun q : Pow12ROk mF o a e => pow12RSt e a q.1.2 q.1.1) (fun q => (q.1.1 + 1).toNat) ⟨(64 * (e.length : Int) - 1, o), by simp only []; omega, by simp only []; omega, by
      simp only []
      rw [show (64 * (e.length : Int) - 1 + 1).toNat = 64 * e.length by omega]⟩ fun q => ?_
    obtain ⟨⟨z, x⟩, h0, h1, h2⟩ := q
    simp only [] at h0 h1 h2
    show Does _ _ (pow12RSt e a x z) _
    refine Does.round hE 100 _ (pow12R_round o mF bitAt a x e z) ⟨fun h => ?_, fun h => ?_⟩
    · simp only [ge_iff_le, decide_eq_true_eq] at h
      obtain ⟨n, rfl⟩ : ∃ n : Nat, z = (n : Int) := ⟨z.toNat, by omega⟩
      rw [wrap_pred n (by omega), whole, Int.toNat_natCast]
      rw [show ((n : Int) + 1).toNat = n + 1 by omega] at h2
      simp only [powG] at h2
      refine ⟨⟨⟨okL' he, by omega⟩, by show n < 64 * e.length; omega⟩, fun _ => ⟨fun h3 => ?_, fun h3 => ?_⟩⟩
      all_goals
        have hn : ((n : Int) - 1 + 1).toNat = n := by omega
        rw [h3] at h2
        simp only [] at h2
      · refine ⟨⟨((n : Int) - 1, mF (mF x x) a), ?_, ?_, ?_⟩, ?_, ?_⟩
        · show -1 ≤ (n : Int) - 1; omega
        · show (n : Int) - 1 < 64 * e.length; omega
        · simpa only [hn] using h2
        · show ((n : Int) - 1 + 1).toNat < ((n : Int) + 1).toNat; omega
        · kernel_rfl
      · refine ⟨⟨((n : Int) - 1, mF x x), ?_, ?_, ?_⟩, ?_, ?_⟩
        · show -1 ≤ (n : Int) - 1; omega
        · show (n : Int) - 1 < 64 * e.length; omega
        · simpa only [hn] using h2
        · show ((n : Int) - 1 + 1).toNat < ((n : Int) + 1).toNat; omega
        · kernel_rfl
    · simp only [ge_iff_le, decide_eq_false_iff_not] at h
      obtain rfl : z = -1 := by omega
      exact ⟨rfl, DoesL.ends hE 100 (pow12R_end o mF bitAt a x e (-1)) (reads_t (by
        rw [show ((-1 : Int) + 1).toNat = 0 from rfl] at h2
        simp only [powG] at h2
        exact h2))⟩
theorem pow12R_ok : CallOk Try.prog 62 (K2 (kRow Fp12).arg aL rF12.res pow12R) :=
  G2 (E := pow12RE one12R mul12R bitAt) Try.func62 (c := codeOf Try.f62) (by kernel_rfl) (bodied Try.func62 (by kernel_rfl) (by kernel_rfl)) (kRow Fp12).inp iL oF12 pow12R fun a e _ he =>
    pow12R_does (En_ok (.cons one12R_ok (.cons mul12R_ok (.cons bit5_ok .nil)))) a e he

end Go.Proofs.Ytehhcpopfgieeaa
