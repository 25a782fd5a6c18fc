/- Powers in the towers. -/
import Derived.Test.YtehhcpopfgieeaaPg
set_option linter.unusedSimpArgs false
set_option linter.unusedVariables false
namespace Go.Proofs.Ytehhcpopfgieeaa
open Go.RowKit

abbrev oF2 : Out Fp2 := rF2.out
theorem bit5_run (e : List UInt64) (i : Int) : endT (En []) oB 100 Try.f98 (flat (codeOf Try.f98)) (startSt Try.f98 [iL.av 0 e, vI i] [inHE eU64 e]) =
  (.vc ((0 ≤ IntKind.i64.wrap (i.tdiv 64) ∧ IntKind.i64.wrap (i.tdiv 64) < (↑e.length : Int)) ∧ 0 + e.length * 1 ≤ (List.map EK.u64.cell e).length ∧ 0 < 1)
    (.vc (0 + (IntKind.i64.wrap (i.tdiv 64)).toNat * 1 < e.length)
      (.vc (0 ≤ i.tmod 64)
        (.leaf (some ((shrU (e.getD (0 + (IntKind.i64.wrap (i.tdiv 64)).toNat * 1) 0) (i.tmod 64) &&& UInt64.ofNat 1 == UInt64.ofNat 1, .t))))))) := by kernel_rfl

abbrev bitIn (e : List UInt64) (i : Nat) : Prop := i < 64 * e.length
abbrev Kbit (F : List UInt64 → Nat → Bool) : Contract := K2c aL argNat bitIn kBool.rs.res F
noncomputable abbrev pow2RC : List Code := flat (codeOf Try.f65)
noncomputable abbrev pow2RB : Code := loopAt Try.f65 0
noncomputable abbrev pow2RE (o : Fp2) (mF : Fp2 → Fp2 → Fp2) (bF : List UInt64 → Nat → Bool) : Env := En [(102, K0 rF2.res o), (41, Kp2 mF), (98, Kbit bF)]
def pow2RSt (e : List UInt64) (a x : Fp2) (z : Int) : St := mkSt 26 [(1, inV 0 e), (2, ptrV 1), (4, ptrV 2), (5, ptrV 3), (6, vI z)] [inHE eU64 e, own 26 (Row.cs a), own 26 (zeros 12), own 26 (Row.cs x)]
theorem pow2R_start (o : Fp2) (mF : Fp2 → Fp2 → Fp2) (bF : List UInt64 → Nat → Bool) (a : Fp2) (e : List UInt64) : stageT (pow2RE o mF bF) 100 (pow2RC.take 3) (startSt Try.f65 [vF2 a, iL.av 0 e] [inHE eU64 e]) [1, 2, 4, 5, 6] [0, 1, 2, 3] =
  (.vc (0 + e.length * 1 ≤ (List.map EK.u64.cell e).length ∧ 0 < 1)
    (.leaf (mkSt 26 [(1, .one (.c (.slc 0 0 (e.length) 1 (.of 0) false))), (2, .one (.c (.ptr 1 0))), (4, .one (.c (.ptr 2 0))), (5, .one (.c (.ptr 3 0))), (6, .one (.c (.int .i64 (IntKind.i64.wrap (IntKind.i64.wrap (64 * (↑e.length : Int)) - 1)))))] [.live ⟨false, 0, 1, (.elts .u64 (e : List UInt64)), false⟩, .live ⟨true, 26, 0, (.row (Row.cs (a : Fp2))), false⟩, .live ⟨true, 26, 0, (.row [(.lit .u64 0), (.lit .u64 0), (.lit .u64 0), (.lit .u64 0), (.lit .u64 0), (.lit .u64 0), (.lit .u64 0), (.lit .u64 0), (.lit .u64 0), (.lit .u64 0), (.lit .u64 0), (.lit .u64 0)]), false⟩, .live ⟨true, 26, 0, (.row (Row.cs (o : Fp2))), false⟩]))) := by kernel_rfl
theorem pow2R_round (o : Fp2) (mF : Fp2 → Fp2 → Fp2) (bF : List UInt64 → Nat → Bool) (a x : Fp2) (e : List UInt64) (z : Int) : roundT (pow2RE o mF bF) 100 pow2RB (pow2RSt e a x z) (same [1, 2, 4, 5, 6] [0, 1, 2, 3]) =
  (.br (decide (z ≥ 0))
    (.vc (((0 + e.length ≤ e.length ∧ e.length < 1125899906842624 ∧ 0 = 0 ∧ 1 = 1) ∧ 0 ≤ z) ∧ bitIn (List.take e.length (List.drop 0 e)) z.toNat)
      (.br (bF (List.take e.length (List.drop 0 e)) z.toNat)
        (.leaf ((.normal, mkSt 26 [(1, .one (.c (.slc 0 0 (e.length) 1 (.of 0) false))), (2, .one (.c (.ptr 1 0))), (4, .one (.c (.ptr 2 0))), (5, .one (.c (.ptr 3 0))), (6, .one (.c (.int .i64 (IntKind.i64.wrap (z - 1)))))] [.live ⟨false, 0, 1, (.elts .u64 (e : List UInt64)), false⟩, .live ⟨true, 26, 0, (.row (Row.cs (a : Fp2))), false⟩, .live ⟨true, 26, 0, (.row [(.lit .u64 0), (.lit .u64 0), (.lit .u64 0), (.lit .u64 0), (.lit .u64 0), (.lit .u64 0), (.lit .u64 0), (.lit .u64 0), (.lit .u64 0), (.lit .u64 0), (.lit .u64 0), (.lit .u64 0)]), false⟩, .live ⟨true, 26, 0, (.row (Row.cs (mF (mF x x) a : Fp2))), false⟩])))
        (.leaf ((.normal, mkSt 26 [(1, .one (.c (.slc 0 0 (e.length) 1 (.of 0) false))), (2, .one (.c (.ptr 1 0))), (4, .one (.c (.ptr 2 0))), (5, .one (.c (.ptr 3 0))), (6, .one (.c (.int .i64 (IntKind.i64.wrap (z - 1)))))] [.live ⟨false, 0, 1, (.elts .u64 (e : List UInt64)), false⟩, .live ⟨true, 26, 0, (.row (Row.cs (a : Fp2))), false⟩, .live ⟨true, 26, 0, (.row [(.lit .u64 0), (.lit .u64 0), (.lit .u64 0), (.lit .u64 0), (.lit .u64 0), (.lit .u64 0), (.lit .u64 0), (.lit .u64 0), (.lit .u64 0), (.lit .u64 0), (.lit .u64 0), (.lit .u64 0)]), false⟩, .live ⟨true, 26, 0, (.row (Row.cs (mF x x : Fp2))), false⟩])))))
    (.leaf ((.exit 0, mkSt 26 [(1, .one (.c (.slc 0 0 (e.length) 1 (.of 0) false))), (2, .one (.c (.ptr 1 0))), (4, .one (.c (.ptr 2 0))), (5, .one (.c (.ptr 3 0))), (6, .one (.c (.int .i64 (z))))] [.live ⟨false, 0, 1, (.elts .u64 (e : List UInt64)), false⟩, .live ⟨true, 26, 0, (.row (Row.cs (a : Fp2))), false⟩, .live ⟨true, 26, 0, (.row [(.lit .u64 0), (.lit .u64 0), (.lit .u64 0), (.lit .u64 0), (.lit .u64 0), (.lit .u64 0), (.lit .u64 0), (.lit .u64 0), (.lit .u64 0), (.lit .u64 0), (.lit .u64 0), (.lit .u64 0)]), false⟩, .live ⟨true, 26, 0, (.row (Row.cs (x : Fp2))), false⟩])))) := by kernel_rfl
theorem pow2R_end (o : Fp2) (mF : Fp2 → Fp2 → Fp2) (bF : List UInt64 → Nat → Bool) (a x : Fp2) (e : List UInt64) (z : Int) : endT (pow2RE o mF bF) oF2 100 Try.f65 (pow2RC.drop 4) (pow2RSt e a x z) =
  (.leaf (some ((x, .t)))) := by kernel_rfl

theorem bit5_ok : CallOk Try.prog 98 (Kbit bitAt) :=
  G2c (E := En []) Try.func98 (c := codeOf Try.f98) (by kernel_rfl) (bodied Try.func98 (by kernel_rfl) (by kernel_rfl)) iL inpNat bitIn oB bitAt fun e i he _ hk => by
    have he : e.length < 1125899906842624 := he
    have hk : i < 64 * e.length := hk
    have hi : i < 9223372036854775808 := by omega
    have hq : i / 64 < e.length := by omega
    refine DoesL.ends (En_ok .nil) 100 (bit5_run e (i : Int)) ?_
    rw [natdiv_Z i hi, natmod_Z]
    refine ⟨vcIdx hq, fun _ => ⟨vcGet hq, fun _ => ⟨by omega, fun _ => reads_t ?_⟩⟩⟩
    rw [getZ]
    exact shr_bit _ _ (by omega)

/-- A power, from the top bit down. -/
def powG {α : Type} (mF : α → α → α) (a : α) (e : List UInt64) : Nat → α → α
  | 0, x => x
  | n + 1, x => powG mF a e n (match bitAt e n with | true => mF (mF x x) a | false => mF x x)
def pow2R (a : Fp2) (e : List UInt64) : Fp2 := powG mul2R a e (64 * e.length) one2R
abbrev Pow2ROk (mF : Fp2 → Fp2 → Fp2) (o a : Fp2) (e : List UInt64) : Type := { q : Int × Fp2 // -1 ≤ q.1 ∧ q.1 < 64 * e.length ∧ powG mF a e (q.1 + 1).toNat q.2 = powG mF a e (64 * e.length) o }

theorem pow2R_does {mF : Fp2 → Fp2 → Fp2} {o : Fp2} (hE : EnvOk (pow2RE o mF bitAt)) (a : Fp2) (e : List UInt64) (he : e.length < 1125899906842624) :
    DoesL (pow2RE o mF bitAt) pow2RC (startSt Try.f65 [vF2 a, iL.av 0 e] [inHE eU64 e]) (EndsAs (pow2RE o mF bitAt) Try.f65 (Reads oF2 (powG mF a e (64 * e.length) o))) := by
    refine DoesL.stageE hE 100 3 _ _ (pow2R_start o mF bitAt a e) ⟨vcLen e, fun _ => ?_⟩
    have hw : IntKind.i64.wrap (IntKind.i64.wrap (64 * (e.length : Int)) - 1) = 64 * (e.length : Int) - 1 := by rw [IntWalk.i64_in (64 * (e.length : Int)) (by omega), IntWalk.i64_in _ (by omega)]
    rw [hw]
    refine DoesL.blockLoop (B := pow2RB) (rest := pow2RC.drop 4) (id := 0) (by kernel_rfl) (fun q : Pow2ROk mF o a e => pow2RSt e a q.1.2 q.1.1) (fun q => (q.1.1 + 1).toNat) ⟨(64 * (e.length : Int) - 1, o), by simp only []; omega, by simp only []; omega, by
      simp only []
      rw [show (64 * (e.length : Int) - 1 + 1).toNat = 64 * e.length by omega]⟩ fun q => ?_
    obtain ⟨⟨z, x⟩, h0, h1, h2⟩ := q
    simp only [] at h0 h1 h2
    show Does _ _ (pow2RSt e a x z) _
    refine Does.round hE 100 _ (pow2R_round o mF bitAt a x e z) ⟨fun h => ?_, fun h => ?_⟩
    · simp only [ge_iff_le, decide_eq_true_eq] at h
      obtain ⟨n, rfl⟩ : ∃ n : Nat, z = (n : Int) := ⟨z.toNat, by omega⟩
      rw [wrap_pred n (by omega), whole, Int.toNat_natCast]
      rw [show ((n : Int) + 1).toNat = n + 1 by omega] at h2
      simp only [powG] at h2
      refine ⟨⟨⟨okL' he, by omega⟩, by show n < 64 * e.length; omega⟩, fun _ => ⟨fun h3 => ?_, fun h3 => ?_⟩⟩
      all_goals
        have hn : ((n : Int) - 1 + 1).toNat = n := by omega
        rw [h3] at h2
        simp only [] at h2
      · refine ⟨⟨((n : Int) - 1, mF (mF x x) a), ?_, ?_, ?_⟩, ?_, ?_⟩
        · show -1 ≤ (n : Int) - 1; omega
        · show (n : Int) - 1 < 64 * e.length; omega
        · simpa only [hn] using h2
        · show ((n : Int) - 1 + 1).toNat < ((n : Int) + 1).toNat; omega
        · kernel_rfl
      · refine ⟨⟨((n : Int) - 1, mF x x), ?_, ?_, ?_⟩, ?_, ?_⟩
        · show -1 ≤ (n : Int) - 1; omega
        · show (n : Int) - 1 < 64 * e.length; omega
        · simpa only [hn] using h2
        · show ((n : Int) - 1 + 1).toNat < ((n : Int) + 1).toNat; omega
        · kernel_rfl
    · simp only [ge_iff_le, decide_eq_false_iff_not] at h
      obtain rfl : z = -1 := by omega
      exact ⟨rfl, DoesL.ends hE 100 (pow2R_end o mF bitAt a x e (-1)) (reads_t (by
        rw [show ((-1 : Int) + 1).toNat = 0 from rfl] at h2
        simp only [powG] at h2
        exact h2))⟩
theorem pow2R_ok : CallOk Try.prog 65 (K2 (kRow Fp2).arg aL rF2.res pow2R) :=
  G2 (E := pow2RE one2R mul2R bitAt) Try.func65 (c := codeOf Try.f65) (by kernel_rfl) (bodied Try.func65 (by kernel_rfl) (by kernel_rfl)) (kRow Fp2).inp iL oF2 pow2R fun a e _ he =>
    pow2R_does (En_ok (.cons one2R_ok (.cons mul2R_ok (.cons bit5_ok .nil)))) a e he

end Go.Proofs.Ytehhcpopfgieeaa
