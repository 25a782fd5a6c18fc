/- Powers in the towers. -/
import Derived.Test.YtchlamfdofpolaaPg
set_option linter.unusedSimpArgs false
set_option linter.unusedVariables false
namespace Go.Proofs.Ytchlamfdofpolaa
open Go.RowKit

abbrev oF2 : Out Fp2 := rF2.out
theorem bit5_run (e : List UInt64) (i : Int) : endT (En []) oB 100 Try.f113 (flat (codeOf Try.f113)) (startSt Try.f113 [iL.av 0 e, vI i] [inHE eU64 e]) =
  (.vc ((0 ≤ IntKind.i64.wrap (i.tdiv 64) ∧ IntKind.i64.wrap (i.tdiv 64) < (↑e.length : Int)) ∧ 0 + e.length * 1 ≤ (List.map EK.u64.cell e).length ∧ 0 < 1)
    (.vc (0 + (IntKind.i64.wrap (i.tdiv 64)).toNat * 1 < e.length)
      (.vc (0 ≤ i.tmod 64)
        (.leaf (some ((shrU (e.getD (0 + (IntKind.i64.wrap (i.tdiv 64)).toNat * 1) 0) (i.tmod 64) &&& UInt64.ofNat 1 == UInt64.ofNat 1, .t))))))) := by kernel_rfl

abbrev bitIn (e : List UInt64) (i : Nat) : Prop := i < 64 * e.length
abbrev Kbit (F : List UInt64 → Nat → Bool) : Contract := K2c aL argNat bitIn kBool.rs.res F
noncomputable abbrev pow2RE (o : Fp2) (mF : Fp2 → Fp2 → Fp2) (bF : List UInt64 → Nat → Bool) : Env := En [(111, K0 rF2.res o), (93, Kp2 mF), (113, Kbit bF)]
def pow2RSt (e : List UInt64) (a x : Fp2) (z : Int) : St := mkSt 26 [(1, inV 0 e), (2, ptrV 1), (4, ptrV 2), (5, ptrV 3), (6, vI z)] [inHE eU64 e, own 52 (Row.cs a), own 52 (zeros 12), own 52 (Row.cs x)]
theorem bit5_ok : CallOk Try.prog 113 (Kbit bitAt) :=
  G2c (E := En []) Try.func113 (c := codeOf Try.f113) (by kernel_rfl) (bodied Try.func113 (by kernel_rfl) (by kernel_rfl)) iL inpNat bitIn oB bitAt fun e i he _ hk => by
    have he : e.length < 1125899906842624 := he
    have hk : i < 64 * e.length := hk
    have hi : i < 9223372036854775808 := by omega
    have hq : i / 64 < e.length := by omega
    refine DoesL.ends (En_ok .nil) 100 (bit5_run e (i : Int)) ?_
    rw [natdiv_Z i hi, natmod_Z]
    refine ⟨vcIdx hq, fun _ => ⟨vcGet hq, fun _ => ⟨by omega, fun _ => reads_t ?_⟩⟩⟩
    rw [getZ]
    exact shr_bit _ _ (by omega)

/-- A power, from the top bit down. -/
def powG {α : Type} (mF : α → α → α) (a : α) (e : List UInt64) : Nat → α → α
  | 0, x => x
  | n + 1, x => powG mF a e n (match bitAt e n with | true => mF (mF x x) a | false => mF x x)
def pow2R (a : Fp2) (e : List UInt64) : Fp2 := powG mul2R a e (64 * e.length) one2R
abbrev Pow2ROk (mF : Fp2 → Fp2 → Fp2) (o a : Fp2) (e : List UInt64) : Type := { q : Int × Fp2 // -1 ≤ q.1 ∧ q.1 < 64 * e.length ∧ powG mF a e (q.1 + 1).toNat q.2 = powG mF a e (64 * e.length) o }

end Go.Proofs.Ytchlamfdofpolaa
