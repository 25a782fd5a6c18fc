/- What is proved: intagliolaw5.Fp2Roots returns true, for every input. No conditions. -/
import Derived.Test.YtehhcpopfgieeaaGc
import Derived.Test.YtehhcpopfgieeaaWa
set_option linter.unusedSimpArgs false
set_option linter.unusedVariables false
namespace Go.Proofs.Ytehhcpopfgieeaa
open Go.ChangeShapes Go.WideShapes Go.ChangeAt Go.RowKit

theorem fp2Roots_lifted (os : Os) (started : os.Started) (H : Type) (enc : TypeId × Value → H) :
    ReturnsInHanded {} Try.checked os 10 .any (Rows.fp2RootsSpec.pre6 enc Try.prog Try.f10 Rows.fp2RootsRow.domain false) (Rows.fp2RootsSpec.post enc Try.prog Try.f10 false true false false) := by
  refine law_lifted_of (C := Try.checked) own' laidOut Try.func10 (by kernel_rfl) 2 rfl ?_ (by kernel_rfl) (tb := 4) (by kernel_rfl) (by kernel_rfl) (by kernel_rfl) started
    (ChangeSpec.witness6 (enc := enc) (C := Try.checked) false ⟨#[], #[rowV zeroFp2, .slice none 0 0], []⟩ 20 (by kernel_rfl) (by kernel_rfl) (by kernel_rfl) (by kernel_rfl)) ?_
  · intro H ds h
    match ds, h with
    | [d0, d1], _ => rfl
  · intro W base args ds p hval hA hsz
    have hval : ∀ (j : Nat) t v, [26, 50][j]? = some t → args[j]? = some v → Value.okWide Try.prog W .any base t v := fun j t v h1 h2 => hval j t v (by rw [← Array.getElem?_toList]; exact h1) h2
    have hsz : (DataW.weightsEach Try.prog [26, 50] ds).all (· ≤ reachBytes) = true := hsz
    have hA : DataW.TrodAll enc Try.prog W 0 (fun _ => true) true [26, 50] args.toList ds p := hA
    obtain ⟨v0, vs0, d0, ds0, p0, q0, e0, rfl, rfl, h0, r0⟩ := trodAll_cons hA
    obtain ⟨v1, vs1, d1, ds1, p1, q1, e1, rfl, rfl, h1, r1⟩ := trodAll_cons r0
    obtain ⟨rfl, rfl, rfl⟩ := trodAll_nil r1
    subst e1
    obtain rfl : args = #[v0, v1] := by cases args; simp_all
    clear e0
    obtain ⟨a0, rfl⟩ := fp2_arg (hval 0 _ v0 rfl rfl)
    obtain ⟨a1, s1⟩ := slice_u64 22 hsz (j := 1) rfl rfl (by kernel_rfl) (by kernel_rfl) (by kernel_rfl) (by kernel_rfl) (hval 1 _ v1 rfl rfl) h1
    exact roots_gives a0 s1

theorem fp2Roots_holds : Rows.Fp2RootsSaid :=
  OpenClaim.holds_of_wide 10 Try.f10 rfl rfl rfl rfl rfl rfl rfl ⟨rfl, rfl, rfl, rfl, rfl⟩ rfl rfl rfl rfl rfl (by kernel_rfl) Try.func10 (by kernel_rfl)
    (of_decide_eq_true (by kernel_rfl)) (by unfold Func.isWrapper; first | (rw [if_pos (by decide +kernel)]; kernel_rfl) | (rw [if_neg (by decide +kernel)]; exact ⟨rfl, rfl⟩))
    (fun os started H enc _ => fp2Roots_lifted os started H enc)

end Go.Proofs.Ytehhcpopfgieeaa
