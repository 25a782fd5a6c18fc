/- The laws of layer 3 over the field alone. -/
import Derived.Test.YtfkmooldindfjaaMB
import Derived.Test.YtfkmooldindfjaaFj
set_option linter.unusedSimpArgs false
set_option linter.unusedVariables false
namespace Go.Proofs.Ytfkmooldindfjaa
open Go.RowKit

theorem field_law (x y z : Fp) : fieldG mayPF invF ofF addF subF mulF x y z = true := by
  unfold fieldG
  rw [mayPF_nat, mayPF_nat, mayPF_nat]
  by_cases hx : x.nat < pN
  · by_cases hy : y.nat < pN
    · by_cases hz : z.nat < pN
      · rw [decide_eq_true hx, decide_eq_true hy, decide_eq_true hz]
        simp only [Bool.not_true, Bool.false_or, fpEq_nat, of_nat]
        have a1 := addF_lt hx hy
        have m1 := mulF_lt (b := z) hx
        have m2 := mulF_lt (b := z) hy
        have c1 : (mulF (addF x y) z).nat = (addF (mulF x z) (mulF y z)).nat := by
          rw [mulF_nat a1, addF_nat m1 m2, addF_nat hx hy, mulF_nat hx, mulF_nat hy, Nat.mod_mul_mod, ← Nat.add_mod, Nat.add_mul]
        have c2 : (mulF x (mulF y z)).nat = (mulF (mulF x y) z).nat := by
          rw [mulF_nat hx, mulF_nat hy, mulF_nat (mulF_lt hx), mulF_nat hx, Nat.mul_mod_mod, Nat.mod_mul_mod, Nat.mul_assoc]
        have c3 : (addF x (addF y z)).nat = (addF (addF x y) z).nat := by
          rw [addF_nat hx (addF_lt hy hz), addF_nat hy hz, addF_nat a1 hz, addF_nat hx hy, Nat.add_mod_mod, Nat.mod_add_mod, Nat.add_assoc]
        have c4 : (subF (addF x y) y).nat = x.nat := by
          rw [subF_nat a1 hy, addF_nat hx hy]
          have hp := pN_pos
          rcases Nat.lt_or_ge (x.nat + y.nat) pN with h | h
          · rw [Nat.mod_eq_of_lt h, show x.nat + y.nat + pN - y.nat = x.nat + pN by omega, Nat.add_mod_right, Nat.mod_eq_of_lt hx]
          · have : (x.nat + y.nat) % pN = x.nat + y.nat - pN := by rw [Nat.mod_eq_sub_mod h, Nat.mod_eq_of_lt (by omega)]
            rw [this, show x.nat + y.nat - pN + pN - y.nat = x.nat by omega, Nat.mod_eq_of_lt hx]
        have c5 : (mulF x y).nat = (mulF y x).nat := by rw [mulF_nat hx, mulF_nat hy, Nat.mul_comm]
        rw [decide_eq_true c1, decide_eq_true c2, decide_eq_true c3, decide_eq_true c4, decide_eq_true c5]
        simp only [Bool.true_and, Bool.and_true, show (0 : UInt64).toNat = 0 from rfl, show (1 : UInt64).toNat = 1 from rfl]
        obtain ⟨i1, i2⟩ := inv_law hx
        by_cases h0 : x.nat = 0
        · rw [decide_eq_true h0, i1 h0]
          rfl
        · obtain ⟨j1, j2, j3⟩ := i2 h0
          rw [decide_eq_false h0, j1, mulF_nat hx, j3]
          rfl
      · rw [decide_eq_false hz]; simp
    · rw [decide_eq_false hy]; simp
  · rw [decide_eq_false hx]; simp

theorem squares_law (a : Fp) : sqG mayPF ofF sqrtF mulF greatF negF a = true := by
  unfold sqG
  cases hm : mayPF a with
  | false => rfl
  | true =>
    have ha := (mayPF_ok a).1 hm
    have hmo : (mulF a a).ok := mul_ok' ha
    obtain ⟨h1, _⟩ := sqrt_law hmo
    obtain ⟨s1, s2, s3, s4⟩ := h1 ⟨a.v, (v_mul ha ha).symm⟩
    have hn := neg_ok' ha
    rw [v_mul ha ha] at s3
    have e1 : (fpEq (sqrtF (mulF a a)).1 a || fpEq (sqrtF (mulF a a)).1 (negF a)) = true := by
      rcases sq_eq' s3 with h | h
      · rw [(fpEq_v s2 ha).2 h]; rfl
      · rw [(fpEq_v s2 hn).2 (by rw [v_neg ha, h]), Bool.or_true]
    rw [s1, e1, s4]
    simp only [Bool.not_true, Bool.false_or, Bool.not_false, Bool.true_and, ofF_zero]
    by_cases h0 : a.v = 0
    · have e0 : a = zeroFp := (v_eq_zero ha).1 h0
      rw [(fpEq_v ha zero_ok').2 (by rw [h0, v_zero])]
      have q1 : (sqrtF a).2 = true := (sqrt_snd ha).2 ⟨0, by rw [h0]; grind⟩
      have q2 : (sqrtF (negF a)).2 = true := (sqrt_snd hn).2 ⟨0, by rw [v_neg ha, h0]; grind⟩
      rw [q1, q2]
      rfl
    · have e0 : fpEq a zeroFp = false := by
        cases he : fpEq a zeroFp with
        | false => rfl
        | true => exact absurd (by rw [← v_zero]; exact (fpEq_v ha zero_ok').1 he) h0
      have q : (sqrtF (negF a)).2 = !(sqrtF a).2 := bool_eq (by
        rw [sqrt_snd hn, v_neg ha, sq_neg h0]
        constructor
        · intro h
          cases hs : (sqrtF a).2 with
          | false => rfl
          | true => exact absurd ((sqrt_snd ha).1 hs) h
        · intro h h2
          rw [(sqrt_snd ha).2 h2] at h
          cases h)
      rw [e0, q, great_neg ha h0]
      cases (sqrtF a).2 <;> cases greatF a <;> rfl

theorem begun_law : begG invF ofF sqrtF mulF mayF = true := by
  unfold begG
  have h2 : (ofF 2).nat ≠ 0 := by rw [of_nat]; decide
  obtain ⟨i1, i2, i3⟩ := (inv_law (ofF_ok 2)).2 h2
  have e1 : fpEq (mulF (invF (ofF 2)).1 (ofF 2)) (ofF 1) = true := by
    rw [fpEq_nat, mulF_nat i2, Nat.mul_comm, i3, of_nat]
    rfl
  have hs : ∃ y : V1, y * y = (ofF 4).v := ⟨(ofF 2).v, V1.ext (by rw [v_of, v_of]; decide +kernel)⟩
  obtain ⟨s1, s2, s3, s4⟩ := (sqrt_law (ofF_ok 4)).1 hs
  have e2 : fpEq (sqrtF (ofF 4)).1 (ofF 2) = true := by
    refine (fpEq_v s2 (ofF_ok 2)).2 ?_
    have hq : (sqrtF (ofF 4)).1.v * (sqrtF (ofF 4)).1.v = (ofF 2).v * (ofF 2).v := by
      rw [s3]
      exact V1.ext (by rw [v_of, v_of]; decide +kernel)
    rcases sq_eq' hq with h | h
    · exact h
    · exfalso
      have hg : greatF (negF (ofF 2)) = true := by
        rw [great_neg (ofF_ok 2) (fun e => h2 (by have := congrArg V1.nat e; rwa [Fp.v_nat (ofF_ok 2), V1.nat_zero] at this)), greatF_nat, of_nat]
        decide +kernel
      have : (sqrtF (ofF 4)).1 = negF (ofF 2) := Fp.v_inj s2 (neg_ok' (ofF_ok 2)) (by rw [v_neg (ofF_ok 2), h])
      rw [this, hg] at s4
      cases s4
  have e3 : fpEq (ofF 3) ⟨3, 0, 0, 0, 0, 0⟩ = true := rfl
  rw [i1, e1, s1, e2, e3, (mayF_ok _).2 i2]
  rfl

end Go.Proofs.Ytfkmooldindfjaa
