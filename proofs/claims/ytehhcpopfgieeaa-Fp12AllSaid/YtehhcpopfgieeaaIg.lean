/- What is proved: intagliolaw7.Fp12All returns true, for every input. No conditions. -/
import Derived.Test.YtehhcpopfgieeaaGc
import Derived.Test.YtehhcpopfgieeaaWc
set_option linter.unusedSimpArgs false
set_option linter.unusedVariables false
namespace Go.Proofs.Ytehhcpopfgieeaa
open Go.ChangeShapes Go.WideShapes Go.ChangeAt Go.RowKit

theorem fp12All_lifted (os : Os) (started : os.Started) (H : Type) (enc : TypeId × Value → H) :
    ReturnsInHanded {} Try.checked os 9 .any (Rows.fp12AllSpec.pre6 enc Try.prog Try.f9 Rows.fp12AllRow.domain false) (Rows.fp12AllSpec.post enc Try.prog Try.f9 false true false false) := by
  refine law_lifted_of (C := Try.checked) own' laidOut Try.func9 (by kernel_rfl) 3 rfl ?_ (by kernel_rfl) (tb := 4) (by kernel_rfl) (by kernel_rfl) (by kernel_rfl) started
    (ChangeSpec.witness6 (enc := enc) (C := Try.checked) false ⟨#[], #[rowV zeroFp12, rowV zeroFp12, .int .u64 0], []⟩ 20 (by kernel_rfl) (by kernel_rfl) (by kernel_rfl) (by kernel_rfl)) ?_
  · intro H ds h
    match ds, h with
    | [d0, d1, d2], _ => rfl
  · intro W base args ds p hval hA hsz
    have hval : ∀ (j : Nat) t v, [48, 48, 22][j]? = some t → args[j]? = some v → Value.okWide Try.prog W .any base t v := fun j t v h1 h2 => hval j t v (by rw [← Array.getElem?_toList]; exact h1) h2
    have hsz : (DataW.weightsEach Try.prog [48, 48, 22] ds).all (· ≤ reachBytes) = true := hsz
    have hA : DataW.TrodAll enc Try.prog W 0 (fun _ => true) true [48, 48, 22] args.toList ds p := hA
    obtain ⟨v0, vs0, d0, ds0, p0, q0, e0, rfl, rfl, h0, r0⟩ := trodAll_cons hA
    obtain ⟨v1, vs1, d1, ds1, p1, q1, e1, rfl, rfl, h1, r1⟩ := trodAll_cons r0
    obtain ⟨v2, vs2, d2, ds2, p2, q2, e2, rfl, rfl, h2, r2⟩ := trodAll_cons r1
    obtain ⟨rfl, rfl, rfl⟩ := trodAll_nil r2
    subst e2
    subst e1
    obtain rfl : args = #[v0, v1, v2] := by cases args; simp_all
    clear e0
    obtain ⟨a0, rfl⟩ := fp12_arg (hval 0 _ v0 rfl rfl)
    obtain ⟨a1, rfl⟩ := fp12_arg (hval 1 _ v1 rfl rfl)
    obtain ⟨a2, rfl⟩ := u64_arg (by kernel_rfl) (by kernel_rfl) (hval 2 _ v2 rfl rfl)
    exact all12_gives a0 a1 a2 W

theorem fp12All_holds : Rows.Fp12AllSaid :=
  OpenClaim.holds_of_wide 9 Try.f9 rfl rfl rfl rfl rfl rfl rfl ⟨rfl, rfl, rfl, rfl, rfl⟩ rfl rfl rfl rfl rfl (by kernel_rfl) Try.func9 (by kernel_rfl)
    (of_decide_eq_true (by kernel_rfl)) (by unfold Func.isWrapper; first | (rw [if_pos (by decide +kernel)]; kernel_rfl) | (rw [if_neg (by decide +kernel)]; exact ⟨rfl, rfl⟩))
    (fun os started H enc _ => fp12All_lifted os started H enc)

end Go.Proofs.Ytehhcpopfgieeaa
