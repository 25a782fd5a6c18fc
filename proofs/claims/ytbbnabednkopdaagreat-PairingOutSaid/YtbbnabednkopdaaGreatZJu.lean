/- What is proved: intagliolaw11.PairingOut returns true, for every input. No conditions. -/
import Derived.Deep.Slices
import Derived.Test.YtbbnabednkopdaaGreatZJu8
set_option linter.unusedSimpArgs false
set_option linter.unusedVariables false
set_option maxRecDepth 100000
namespace Go.Proofs.YtbbnabednkopdaaGreat
open Go.ChangeShapes Go.WideShapes Go.ChangeAt Go.RowKit
instance : Inhabited Fr := ⟨⟨0, 0, 0, 0⟩⟩
end Go.Proofs.YtbbnabednkopdaaGreat

set_option linter.unusedSimpArgs false
set_option linter.unusedVariables false
set_option maxRecDepth 100000
namespace Go.Proofs.YtbbnabednkopdaaGreat
open Go.ChangeShapes Go.WideShapes Go.ChangeAt Go.RowKit
theorem pairingOut_lifted (os : Os) (started : os.Started) (H : Type) (enc : TypeId × Value → H) :
    ReturnsInHanded {} Tryz.checked os 5 .any (Rows.pairingOutSpec.pre6 enc Tryz.prog Tryz.f5 Rows.pairingOutRow.domain false) (Rows.pairingOutSpec.post enc Tryz.prog Tryz.f5 false true false false) := by
  refine law_lifted_of (C := Tryz.checked) own' laidOut Tryz.func5 (by kernel_rfl) 2 rfl ?_ (by kernel_rfl) (tb := 4) (by kernel_rfl) (by kernel_rfl) (by kernel_rfl) started
    (ChangeSpec.witness6 (enc := enc) (C := Tryz.checked) false ⟨#[], #[.int .u64 0, rowV zeroFr], []⟩ 20 (by kernel_rfl) (by kernel_rfl) (by kernel_rfl) (by kernel_rfl)) ?_
  · intro H ds h
    match ds, h with
    | [d0, d1], _ => rfl
  · intro W base args ds p hval hA hsz
    have hval : ∀ (j : Nat) t v, [25, 27][j]? = some t → args[j]? = some v → Value.okWide Tryz.prog W .any base t v := fun j t v h1 h2 => hval j t v (by rw [← Array.getElem?_toList]; exact h1) h2
    have hsz : (DataW.weightsEach Tryz.prog [25, 27] ds).all (· ≤ reachBytes) = true := hsz
    have hA : DataW.TrodAll enc Tryz.prog W 0 (fun _ => true) true [25, 27] args.toList ds p := hA
    obtain ⟨v0, vs0, d0, ds0, p0, q0, e0, rfl, rfl, h0, r0⟩ := trodAll_cons hA
    obtain ⟨v1, vs1, d1, ds1, p1, q1, e1, rfl, rfl, h1, r1⟩ := trodAll_cons r0
    obtain ⟨rfl, rfl, rfl⟩ := trodAll_nil r1
    subst e1
    obtain rfl : args = #[v0, v1] := by cases args; simp_all
    clear e0
    obtain ⟨a0, rfl⟩ := u64_arg (by kernel_rfl) (by kernel_rfl) (hval 0 _ v0 rfl rfl)
    obtain ⟨a1, rfl⟩ := fr_arg (hval 1 _ v1 rfl rfl)
    exact pairingOut_gives (n := a0) (k := a1) rfl rfl
theorem pairingOut_holds : Rows.PairingOutSaid :=
  OpenClaim.holds_of_wide 5 Tryz.f5 rfl rfl rfl rfl rfl rfl rfl ⟨rfl, rfl, rfl, rfl, rfl⟩ rfl rfl rfl rfl rfl (by kernel_rfl) Tryz.func5 (by kernel_rfl)
    (of_decide_eq_true (by kernel_rfl)) (by unfold Func.isWrapper; first | (rw [if_pos (by decide +kernel)]; kernel_rfl) | (rw [if_neg (by decide +kernel)]; exact ⟨rfl, rfl⟩))
    (fun os started H enc _ => pairingOut_lifted os started H enc)
end Go.Proofs.YtbbnabednkopdaaGreat
