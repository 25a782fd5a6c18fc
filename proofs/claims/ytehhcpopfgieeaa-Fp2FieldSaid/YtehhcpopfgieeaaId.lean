/- What is proved: intagliolaw5.Fp2Field returns true, for every input. No conditions. -/
import Derived.Test.YtehhcpopfgieeaaGc
import Derived.Test.YtehhcpopfgieeaaWa
set_option linter.unusedSimpArgs false
set_option linter.unusedVariables false
namespace Go.Proofs.Ytehhcpopfgieeaa
open Go.ChangeShapes Go.WideShapes Go.ChangeAt Go.RowKit

theorem fp2Field_lifted (os : Os) (started : os.Started) (H : Type) (enc : TypeId × Value → H) :
    ReturnsInHanded {} Try.checked os 11 .any (Rows.fp2FieldSpec.pre6 enc Try.prog Try.f11 Rows.fp2FieldRow.domain false) (Rows.fp2FieldSpec.post enc Try.prog Try.f11 false true false false) := by
  refine law_lifted_of (C := Try.checked) own' laidOut Try.func11 (by kernel_rfl) 3 rfl ?_ (by kernel_rfl) (tb := 4) (by kernel_rfl) (by kernel_rfl) (by kernel_rfl) started
    (ChangeSpec.witness6 (enc := enc) (C := Try.checked) false ⟨#[], #[rowV zeroFp2, rowV zeroFp2, rowV zeroFp2], []⟩ 20 (by kernel_rfl) (by kernel_rfl) (by kernel_rfl) (by kernel_rfl)) ?_
  · intro H ds h
    match ds, h with
    | [d0, d1, d2], _ => rfl
  · intro W base args ds p hval hA hsz
    have hval : ∀ (j : Nat) t v, [26, 26, 26][j]? = some t → args[j]? = some v → Value.okWide Try.prog W .any base t v := fun j t v h1 h2 => hval j t v (by rw [← Array.getElem?_toList]; exact h1) h2
    have hsz : (DataW.weightsEach Try.prog [26, 26, 26] ds).all (· ≤ reachBytes) = true := hsz
    have hA : DataW.TrodAll enc Try.prog W 0 (fun _ => true) true [26, 26, 26] args.toList ds p := hA
    obtain ⟨v0, vs0, d0, ds0, p0, q0, e0, rfl, rfl, h0, r0⟩ := trodAll_cons hA
    obtain ⟨v1, vs1, d1, ds1, p1, q1, e1, rfl, rfl, h1, r1⟩ := trodAll_cons r0
    obtain ⟨v2, vs2, d2, ds2, p2, q2, e2, rfl, rfl, h2, r2⟩ := trodAll_cons r1
    obtain ⟨rfl, rfl, rfl⟩ := trodAll_nil r2
    subst e2
    subst e1
    obtain rfl : args = #[v0, v1, v2] := by cases args; simp_all
    clear e0
    obtain ⟨a0, rfl⟩ := fp2_arg (hval 0 _ v0 rfl rfl)
    obtain ⟨a1, rfl⟩ := fp2_arg (hval 1 _ v1 rfl rfl)
    obtain ⟨a2, rfl⟩ := fp2_arg (hval 2 _ v2 rfl rfl)
    exact field2_gives a0 a1 a2 W

theorem fp2Field_holds : Rows.Fp2FieldSaid :=
  OpenClaim.holds_of_wide 11 Try.f11 rfl rfl rfl rfl rfl rfl rfl ⟨rfl, rfl, rfl, rfl, rfl⟩ rfl rfl rfl rfl rfl (by kernel_rfl) Try.func11 (by kernel_rfl)
    (of_decide_eq_true (by kernel_rfl)) (by unfold Func.isWrapper; first | (rw [if_pos (by decide +kernel)]; kernel_rfl) | (rw [if_neg (by decide +kernel)]; exact ⟨rfl, rfl⟩))
    (fun os started H enc _ => fp2Field_lifted os started H enc)

end Go.Proofs.Ytehhcpopfgieeaa
