/- What is proved: intagliolaw3.FpExponents returns true, for every input. No conditions. -/
import Derived.Test.YtfkmooldindfjaaGb
import Derived.Test.YtfkmooldindfjaaMk
import Derived.Test.YtfkmooldindfjaaFt
set_option linter.unusedSimpArgs false
set_option linter.unusedVariables false
namespace Go.Proofs.Ytfkmooldindfjaa
open Go.ChangeShapes Go.WideShapes Go.ChangeAt Go.RowKit

theorem pm1_val : valL (rlessF pLimbs.list [1]).1 = pN - 1 := by decide +kernel
theorem exponents_law (a : Fp) (d e : List UInt64) : lexpG mayPF pLimbs rlessF ofF mulF powF sumF a d e = true := by
  unfold lexpG
  cases hm : mayPF a with
  | false => rfl
  | true =>
    have ha := (mayPF_ok a).1 hm
    have h1 : fpEq (mulF (powF a d) (powF a e)) (powF a (sumF d e)) = true := by
      rw [fpEq_v (mul_ok' (b := powF a e) (pow_ok' ha d)) (pow_ok' ha _), v_mul (pow_ok' ha d) (pow_ok' ha e), v_powL ha, v_powL ha, v_powL ha, sumF_val]
      exact (pow_add' _ _ _).symm
    have h2 : fpEq (powF a []) (ofF 1) = true := by
      rw [one_of, fpEq_v (pow_ok' ha []) one_ok', v_powL ha, v_one]
      exact pow_zero' _
    rw [h1, h2]
    cases h0 : fpEq a (ofF 0) with
    | true =>
      have e0 : a = zeroFp := (fpEq_iff _ _).1 h0
      have h3 : fpEq (powF a (rlessF pLimbs.list [1]).1) a = true := by
        rw [fpEq_v (pow_ok' ha _) ha, v_powL ha, pm1_val, e0, v_zero]
        exact zero_pow' _ (by decide +kernel)
      rw [h3]
      simp
    | false =>
      have h3 : fpEq (powF a (rlessF pLimbs.list [1]).1) (ofF 1) = true := by
        have hne : a.v ≠ 0 := fun h => by
          have := (v_eq_zero ha).1 h
          rw [this] at h0
          exact absurd h0 (by decide)
        rw [one_of, fpEq_v (pow_ok' ha _) one_ok', v_powL ha, pm1_val, v_one]
        exact V1.fermat hne
      rw [h3]
      simp

theorem fpExponents_lifted (os : Os) (started : os.Started) (H : Type) (enc : TypeId × Value → H) :
    ReturnsInHanded {} Try.checked os 5 .any (Rows.fpExponentsSpec.pre6 enc Try.prog Try.f5 Rows.fpExponentsRow.domain false) (Rows.fpExponentsSpec.post enc Try.prog Try.f5 false true false false) := by
  refine law_lifted_of (C := Try.checked) own' laidOut Try.func5 (by kernel_rfl) 3 rfl ?_ (by kernel_rfl) (tb := 4) (by kernel_rfl) (by kernel_rfl) (by kernel_rfl) started
    (ChangeSpec.witness6 (enc := enc) (C := Try.checked) false ⟨#[], #[rowV zeroFp, .slice none 0 0, .slice none 0 0], []⟩ 20 (by kernel_rfl) (by kernel_rfl) (by kernel_rfl) (by kernel_rfl)) ?_
  · intro H ds h
    match ds, h with
    | [d0, d1, d2], _ => rfl
  · intro W base args ds p hval hA hsz
    have hval : ∀ (j : Nat) t v, [24, 25, 25][j]? = some t → args[j]? = some v → Value.okWide Try.prog W .any base t v := fun j t v h1 h2 => hval j t v (by rw [← Array.getElem?_toList]; exact h1) h2
    have hsz : (DataW.weightsEach Try.prog [24, 25, 25] ds).all (· ≤ reachBytes) = true := hsz
    have hA : DataW.TrodAll enc Try.prog W 0 (fun _ => true) true [24, 25, 25] args.toList ds p := hA
    obtain ⟨v0, vs0, d0, ds0, p0, q0, e0, rfl, rfl, h0, r0⟩ := trodAll_cons hA
    obtain ⟨v1, vs1, d1, ds1, p1, q1, e1, rfl, rfl, h1, r1⟩ := trodAll_cons r0
    obtain ⟨v2, vs2, d2, ds2, p2, q2, e2, rfl, rfl, h2, r2⟩ := trodAll_cons r1
    obtain ⟨rfl, rfl, rfl⟩ := trodAll_nil r2
    subst e2
    subst e1
    obtain rfl : args = #[v0, v1, v2] := by cases args; simp_all
    clear e0
    obtain ⟨a0, rfl⟩ := fp_arg (hval 0 _ v0 rfl rfl)
    obtain ⟨a1, s1⟩ := slice_u64 22 hsz (j := 1) rfl rfl (by kernel_rfl) (by kernel_rfl) (by kernel_rfl) (by kernel_rfl) (hval 1 _ v1 rfl rfl) h1
    obtain ⟨a2, s2⟩ := slice_u64 22 hsz (j := 2) rfl rfl (by kernel_rfl) (by kernel_rfl) (by kernel_rfl) (by kernel_rfl) (hval 2 _ v2 rfl rfl) h2
    exact lexp_gives begun_ok' exponents_law a0 s1 s2

theorem fpExponents_holds : Rows.FpExponentsSaid :=
  OpenClaim.holds_of_wide 5 Try.f5 rfl rfl rfl rfl rfl rfl rfl ⟨rfl, rfl, rfl, rfl, rfl⟩ rfl rfl rfl rfl rfl (by kernel_rfl) Try.func5 (by kernel_rfl)
    (of_decide_eq_true (by kernel_rfl)) (by unfold Func.isWrapper; first | (rw [if_pos (by decide +kernel)]; kernel_rfl) | (rw [if_neg (by decide +kernel)]; exact ⟨rfl, rfl⟩))
    (fun os started H enc _ => fpExponents_lifted os started H enc)

end Go.Proofs.Ytfkmooldindfjaa
