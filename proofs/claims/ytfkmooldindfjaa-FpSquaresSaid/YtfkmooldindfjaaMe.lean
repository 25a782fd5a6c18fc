/- The base field's plain law, part e: a field. -/
import Derived.Test.YtfkmooldindfjaaMd
import Derived.Test.YtfkmooldindfjaaFi
set_option linter.unusedSimpArgs false
set_option linter.unusedVariables false
namespace Go.Proofs.Ytfkmooldindfjaa

theorem of_nat (n : UInt64) : (ofF n).nat = n.toNat := by
  unfold ofF Fp.nat
  simp only [show (0 : UInt64).toNat = 0 from rfl, Nat.mul_zero, Nat.add_zero]

theorem invE : eLow [pLimbs.l0 - 2, pLimbs.l1, pLimbs.l2, pLimbs.l3, pLimbs.l4, pLimbs.l5] (64 * 6) = pN - 2 := by decide +kernel

theorem not_dvd {a : Nat} (h : a < pN) (h0 : a ≠ 0) : ¬ pN ∣ a := fun hd => absurd (Nat.le_of_dvd (by omega) hd) (by omega)

theorem two_lt : 2 < pN := by decide +kernel

theorem inv_law {x : Fp} (hx : x.nat < pN) : (x.nat = 0 → (invF x).2 = 7) ∧ (x.nat ≠ 0 → (invF x).2 = 0 ∧ (invF x).1.nat < pN ∧ x.nat * (invF x).1.nat % pN = 1) := by
  unfold invF
  rw [fpEq_nat, zero_nat]
  refine ⟨fun h => ?_, fun h => ?_⟩
  · rw [decide_eq_true h]
  · rw [decide_eq_false h]
    simp only []
    have e : (powF x [pLimbs.l0 - 2, pLimbs.l1, pLimbs.l2, pLimbs.l3, pLimbs.l4, pLimbs.l5]).nat = x.nat ^ (pN - 2) % pN := by
      rw [powF_nat hx, show 64 * [pLimbs.l0 - 2, pLimbs.l1, pLimbs.l2, pLimbs.l3, pLimbs.l4, pLimbs.l5].length = 64 * 6 from rfl, invE]
    refine ⟨trivial, by rw [e]; exact Nat.mod_lt _ pN_pos, ?_⟩
    rw [e, Nat.mul_mod_mod]
    have h2 := two_lt
    have : x.nat * x.nat ^ (pN - 2) = x.nat ^ (pN - 1) := by rw [show pN - 1 = (pN - 2) + 1 by omega, Nat.pow_succ, Nat.mul_comm]
    rw [this]
    exact fermat prime_p (not_dvd hx h)

theorem field_law (x y z : Fp) : fieldG mayPF invF ofF addF subF mulF x y z = true := by
  unfold fieldG
  rw [mayPF_nat, mayPF_nat, mayPF_nat]
  by_cases hx : x.nat < pN
  · by_cases hy : y.nat < pN
    · by_cases hz : z.nat < pN
      · rw [decide_eq_true hx, decide_eq_true hy, decide_eq_true hz]
        simp only [Bool.not_true, Bool.false_or, fpEq_nat, of_nat]
        have a1 := addF_lt hx hy
        have m1 := mulF_lt (b := z) hx
        have m2 := mulF_lt (b := z) hy
        have c1 : (mulF (addF x y) z).nat = (addF (mulF x z) (mulF y z)).nat := by
          rw [mulF_nat a1, addF_nat m1 m2, addF_nat hx hy, mulF_nat hx, mulF_nat hy, Nat.mod_mul_mod, ← Nat.add_mod, Nat.add_mul]
        have c2 : (mulF x (mulF y z)).nat = (mulF (mulF x y) z).nat := by
          rw [mulF_nat hx, mulF_nat hy, mulF_nat (mulF_lt hx), mulF_nat hx, Nat.mul_mod_mod, Nat.mod_mul_mod, Nat.mul_assoc]
        have c3 : (addF x (addF y z)).nat = (addF (addF x y) z).nat := by
          rw [addF_nat hx (addF_lt hy hz), addF_nat hy hz, addF_nat a1 hz, addF_nat hx hy, Nat.add_mod_mod, Nat.mod_add_mod, Nat.add_assoc]
        have c4 : (subF (addF x y) y).nat = x.nat := by
          rw [subF_nat a1 hy, addF_nat hx hy]
          have hp := pN_pos
          rcases Nat.lt_or_ge (x.nat + y.nat) pN with h | h
          · rw [Nat.mod_eq_of_lt h, show x.nat + y.nat + pN - y.nat = x.nat + pN by omega, Nat.add_mod_right, Nat.mod_eq_of_lt hx]
          · have : (x.nat + y.nat) % pN = x.nat + y.nat - pN := by rw [Nat.mod_eq_sub_mod h, Nat.mod_eq_of_lt (by omega)]
            rw [this, show x.nat + y.nat - pN + pN - y.nat = x.nat by omega, Nat.mod_eq_of_lt hx]
        have c5 : (mulF x y).nat = (mulF y x).nat := by rw [mulF_nat hx, mulF_nat hy, Nat.mul_comm]
        rw [decide_eq_true c1, decide_eq_true c2, decide_eq_true c3, decide_eq_true c4, decide_eq_true c5]
        simp only [Bool.true_and, Bool.and_true, show (0 : UInt64).toNat = 0 from rfl, show (1 : UInt64).toNat = 1 from rfl]
        obtain ⟨i1, i2⟩ := inv_law hx
        by_cases h0 : x.nat = 0
        · rw [decide_eq_true h0, i1 h0]
          rfl
        · obtain ⟨j1, j2, j3⟩ := i2 h0
          rw [decide_eq_false h0, j1, mulF_nat hx, j3]
          rfl
      · rw [decide_eq_false hz]; simp
    · rw [decide_eq_false hy]; simp
  · rw [decide_eq_false hx]; simp

end Go.Proofs.Ytfkmooldindfjaa
