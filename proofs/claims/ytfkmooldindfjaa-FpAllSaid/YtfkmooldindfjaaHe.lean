/- What is proved: intagliolaw3.FpAll returns true, for every input. No conditions. -/
import Derived.Test.YtfkmooldindfjaaGb
import Derived.Test.YtfkmooldindfjaaFw
set_option linter.unusedSimpArgs false
set_option linter.unusedVariables false
namespace Go.Proofs.Ytfkmooldindfjaa
open Go.ChangeShapes Go.WideShapes Go.ChangeAt Go.RowKit

theorem valAt_congr {a b : List UInt64} : ∀ {k : Nat}, (∀ j, j < k → atF a j = atF b j) → valAt a k = valAt b k
  | 0, _ => rfl
  | k + 1, h => by
    simp only [valAt]
    rw [valAt_congr (k := k) fun j hj => h j (by omega), h k (by omega)]
theorem ofL_nat (l : List UInt64) : (ofL l).nat = valAt l 6 := by
  rw [← list_val]
  refine valAt_congr fun j hj => ?_
  match j, hj with
  | 0, _ => rfl
  | 1, _ => rfl
  | 2, _ => rfl
  | 3, _ => rfl
  | 4, _ => rfl
  | 5, _ => rfl
theorem lrestF_nat (a : List UInt64) : (lrestF a).nat = valL a % pN := by
  have hp : valL pLimbs.list = pN := by rw [valL_list, pLimbs_nat]
  obtain ⟨h1, h2, _⟩ := restF_val (a := a) (m := pLimbs.list) (by rw [hp]; exact pN_pos)
  rw [hp] at h2
  have h3 : valL a % pN < pN := Nat.mod_lt _ pN_pos
  have h4 : pN < W64 ^ 6 := by decide +kernel
  unfold lrestF
  rw [ofL_nat, valAt_out _ (normal_len h1 (by omega)), h2]
theorem mul_rest {x : Fp} (hx : x.ok) (y : Fp) : mulF x y = lrestF (timesF x.list y.list) := Fp.nat_inj (by
  rw [mulF_nat hx, lrestF_nat, timesF_val, valL_list, valL_list])
theorem cmp_self (xs : List UInt64) : (cmpR xs xs == 0) = true := by
  rw [cmpR_val, if_neg (by omega), if_neg (by omega)]
  rfl
theorem all_law (x y : Fp) (n : UInt64) : lallG mayF mayPF addF addPF subF subPF negF negPF mulF lrestF timesF ofF greatF greatPF pLimbs pLimbs cmpR x y n = true := by
  have hm : ∀ z : Fp, mayF z = mayPF z := fun z => by rw [mayF_nat, mayPF_nat]
  unfold lallG
  rw [hm x, hm y, beq_self_eq_true, beq_self_eq_true]
  cases hx : mayPF x with
  | false => rfl
  | true =>
    have hox := (mayPF_ok x).1 hx
    rw [addPF_eq, subPF_eq, negPF_eq, greatPF_eq, ← mul_rest hox y, cmp_self, (fpEq_iff _ _).2 rfl, (fpEq_iff _ _).2 rfl, (fpEq_iff _ _).2 rfl, (fpEq_iff _ _).2 rfl, beq_self_eq_true]
    have ho : fpEq (ofF n) ⟨n, 0, 0, 0, 0, 0⟩ = true := (fpEq_iff _ _).2 rfl
    rw [ho]
    simp

theorem fpAll_lifted (os : Os) (started : os.Started) (H : Type) (enc : TypeId × Value → H) :
    ReturnsInHanded {} Try.checked os 6 .any (Rows.fpAllSpec.pre6 enc Try.prog Try.f6 Rows.fpAllRow.domain false) (Rows.fpAllSpec.post enc Try.prog Try.f6 false true false false) := by
  refine law_lifted_of (C := Try.checked) own' laidOut Try.func6 (by kernel_rfl) 3 rfl ?_ (by kernel_rfl) (tb := 4) (by kernel_rfl) (by kernel_rfl) (by kernel_rfl) started
    (ChangeSpec.witness6 (enc := enc) (C := Try.checked) false ⟨#[], #[rowV zeroFp, rowV zeroFp, .int .u64 0], []⟩ 20 (by kernel_rfl) (by kernel_rfl) (by kernel_rfl) (by kernel_rfl)) ?_
  · intro H ds h
    match ds, h with
    | [d0, d1, d2], _ => rfl
  · intro W base args ds p hval hA hsz
    have hval : ∀ (j : Nat) t v, [24, 24, 22][j]? = some t → args[j]? = some v → Value.okWide Try.prog W .any base t v := fun j t v h1 h2 => hval j t v (by rw [← Array.getElem?_toList]; exact h1) h2
    have hsz : (DataW.weightsEach Try.prog [24, 24, 22] ds).all (· ≤ reachBytes) = true := hsz
    have hA : DataW.TrodAll enc Try.prog W 0 (fun _ => true) true [24, 24, 22] args.toList ds p := hA
    obtain ⟨v0, vs0, d0, ds0, p0, q0, e0, rfl, rfl, h0, r0⟩ := trodAll_cons hA
    obtain ⟨v1, vs1, d1, ds1, p1, q1, e1, rfl, rfl, h1, r1⟩ := trodAll_cons r0
    obtain ⟨v2, vs2, d2, ds2, p2, q2, e2, rfl, rfl, h2, r2⟩ := trodAll_cons r1
    obtain ⟨rfl, rfl, rfl⟩ := trodAll_nil r2
    subst e2
    subst e1
    obtain rfl : args = #[v0, v1, v2] := by cases args; simp_all
    clear e0
    obtain ⟨a0, rfl⟩ := fp_arg (hval 0 _ v0 rfl rfl)
    obtain ⟨a1, rfl⟩ := fp_arg (hval 1 _ v1 rfl rfl)
    obtain ⟨a2, rfl⟩ := u64_arg (by kernel_rfl) (by kernel_rfl) (hval 2 _ v2 rfl rfl)
    exact lall_gives begun_ok' all_law a0 a1 a2 W

theorem fpAll_holds : Rows.FpAllSaid :=
  OpenClaim.holds_of_wide 6 Try.f6 rfl rfl rfl rfl rfl rfl rfl ⟨rfl, rfl, rfl, rfl, rfl⟩ rfl rfl rfl rfl rfl (by kernel_rfl) Try.func6 (by kernel_rfl)
    (of_decide_eq_true (by kernel_rfl)) (by unfold Func.isWrapper; first | (rw [if_pos (by decide +kernel)]; kernel_rfl) | (rw [if_neg (by decide +kernel)]; exact ⟨rfl, rfl⟩))
    (fun os started H enc _ => fpAll_lifted os started H enc)

end Go.Proofs.Ytfkmooldindfjaa
