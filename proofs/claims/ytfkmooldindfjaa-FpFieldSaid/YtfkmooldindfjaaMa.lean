/- The base field's plain law, part a: numbers of limbs, sums and differences. -/
import Derived.Test.YtfkmooldindfjaaFg
set_option linter.unusedSimpArgs false
set_option linter.unusedVariables false
namespace Go.Proofs.Ytfkmooldindfjaa

/-- 2^64 -/
def W64 : Nat := 18446744073709551616

/-- The modulus. -/
def pN : Nat := 0x1a0111ea397fe69a4b1ba7b6434bacd764774b84f38512bf6730d2a0f6b0f6241eabfffeb153ffffb9feffffffffaaab
/-- 2^384 -/
def rN : Nat := 0x1000000000000000000000000000000000000000000000000000000000000000000000000000000000000000000000000

def Fp.nat (a : Fp) : Nat := a.l0.toNat + W64 * (a.l1.toNat + W64 * (a.l2.toNat + W64 * (a.l3.toNat + W64 * (a.l4.toNat + W64 * a.l5.toNat))))

theorem Fp.nat_lt (a : Fp) : a.nat < rN := by
  have h0 := a.l0.toNat_lt
  have h1 := a.l1.toNat_lt
  have h2 := a.l2.toNat_lt
  have h3 := a.l3.toNat_lt
  have h4 := a.l4.toNat_lt
  have h5 := a.l5.toNat_lt
  unfold Fp.nat rN W64
  omega

theorem Fp.nat_inj {a b : Fp} (h : a.nat = b.nat) : a = b := by
  have h0 := a.l0.toNat_lt
  have h1 := a.l1.toNat_lt
  have h2 := a.l2.toNat_lt
  have h3 := a.l3.toNat_lt
  have h4 := a.l4.toNat_lt
  have h5 := a.l5.toNat_lt
  have k0 := b.l0.toNat_lt
  have k1 := b.l1.toNat_lt
  have k2 := b.l2.toNat_lt
  have k3 := b.l3.toNat_lt
  have k4 := b.l4.toNat_lt
  have k5 := b.l5.toNat_lt
  unfold Fp.nat W64 at h
  obtain ⟨a0, a1, a2, a3, a4, a5⟩ := a
  obtain ⟨b0, b1, b2, b3, b4, b5⟩ := b
  simp only [] at *
  have e0 : a0 = b0 := UInt64.toNat.inj (by omega)
  have e1 : a1 = b1 := UInt64.toNat.inj (by omega)
  have e2 : a2 = b2 := UInt64.toNat.inj (by omega)
  have e3 : a3 = b3 := UInt64.toNat.inj (by omega)
  have e4 : a4 = b4 := UInt64.toNat.inj (by omega)
  have e5 : a5 = b5 := UInt64.toNat.inj (by omega)
  rw [e0, e1, e2, e3, e4, e5]

theorem pLimbs_nat : pLimbs.nat = pN := by decide +kernel

theorem add_step (x y : UInt64) (c : Bool) : (addS x y c).toNat + W64 * (addC x y c).toNat = x.toNat + y.toNat + c.toNat := by
  rw [addS_nat, addC_nat]
  unfold W64
  omega

theorem subB_nat (x y : UInt64) (c : Bool) : (subB x y c).toNat = if x.toNat < y.toNat + c.toNat then 1 else 0 := by
  rw [subB_iff]
  by_cases h : x.toNat < y.toNat + c.toNat <;> simp [h]

theorem sub_step (x y : UInt64) (c : Bool) : (subS x y c).toNat + y.toNat + c.toNat = x.toNat + W64 * (subB x y c).toNat := by
  have hx := x.toNat_lt
  have hy := y.toNat_lt
  have hc : c.toNat ≤ 1 := by cases c <;> simp
  rw [subS_nat, subB_nat]
  unfold W64
  split <;> omega

theorem addT_nat (a b : Fp) : (addT a b).1.nat + rN * (addT a b).2.toNat = a.nat + b.nat := by
  unfold addT
  simp only []
  have s0 := add_step a.l0 b.l0 false
  generalize addC a.l0 b.l0 false = c0 at *
  have s1 := add_step a.l1 b.l1 c0
  generalize addC a.l1 b.l1 c0 = c1 at *
  have s2 := add_step a.l2 b.l2 c1
  generalize addC a.l2 b.l2 c1 = c2 at *
  have s3 := add_step a.l3 b.l3 c2
  generalize addC a.l3 b.l3 c2 = c3 at *
  have s4 := add_step a.l4 b.l4 c3
  generalize addC a.l4 b.l4 c3 = c4 at *
  have s5 := add_step a.l5 b.l5 c4
  generalize addC a.l5 b.l5 c4 = c5 at *
  unfold Fp.nat rN W64 at *
  simp only [Bool.toNat_false] at *
  omega

theorem subT_nat (a b : Fp) : (subT a b).1.nat + b.nat = a.nat + rN * (subT a b).2.toNat := by
  unfold subT
  simp only []
  have s0 := sub_step a.l0 b.l0 false
  generalize subB a.l0 b.l0 false = c0 at *
  have s1 := sub_step a.l1 b.l1 c0
  generalize subB a.l1 b.l1 c0 = c1 at *
  have s2 := sub_step a.l2 b.l2 c1
  generalize subB a.l2 b.l2 c1 = c2 at *
  have s3 := sub_step a.l3 b.l3 c2
  generalize subB a.l3 b.l3 c2 = c3 at *
  have s4 := sub_step a.l4 b.l4 c3
  generalize subB a.l4 b.l4 c3 = c4 at *
  have s5 := sub_step a.l5 b.l5 c4
  generalize subB a.l5 b.l5 c4 = c5 at *
  unfold Fp.nat rN W64 at *
  simp only [Bool.toNat_false] at *
  omega

theorem lessT_eq (a : Fp) : lessT a = subT a pLimbs := rfl

/-- The modulus taken away once, of a number and a limb on top that is 0 or 1. -/
theorem lessF_nat (a : Fp) (o : UInt64) (ho : o.toNat ≤ 1) (h : a.nat + rN * o.toNat < 2 * pN) : (lessF a o).nat = (a.nat + rN * o.toNat) % pN := by
  have h1 := subT_nat a pLimbs
  rw [pLimbs_nat] at h1
  have h2 := (subT a pLimbs).1.nat_lt
  have h3 := a.nat_lt
  have hb : (subT a pLimbs).2.toNat ≤ 1 := by cases (subT a pLimbs).2 <;> simp
  have hd : decide (o < b2u (lessT a).2) = decide (o.toNat < (subT a pLimbs).2.toNat) := by
    rw [lessT_eq]
    refine decide_eq_decide.2 ?_
    rw [UInt64.lt_iff_toNat_lt, b2u_nat]
  unfold lessF
  rw [hd, lessT_eq]
  have hp : pN < rN := by decide +kernel
  have hp0 : 0 < pN := by decide +kernel
  by_cases hc : o.toNat < (subT a pLimbs).2.toNat
  · simp only [hc, decide_true]
    have e0 : o.toNat = 0 := by omega
    have e1 : (subT a pLimbs).2.toNat = 1 := by omega
    rw [e0] at h ⊢
    rw [e1] at h1
    rw [Nat.mod_eq_of_lt (by omega)]
    omega
  · simp only [hc, decide_false]
    have e2 : (subT a pLimbs).1.nat + pN = a.nat + rN * o.toNat := by
      rcases Nat.lt_or_ge (subT a pLimbs).2.toNat o.toNat with hl | hl
      · have e0 : o.toNat = 1 := by omega
        have e1 : (subT a pLimbs).2.toNat = 0 := by omega
        rw [e1] at h1
        rw [e0] at h ⊢
        omega
      · have e1 : (subT a pLimbs).2.toNat = o.toNat := by omega
        rw [e1] at h1
        exact h1
    rw [← e2, Nat.add_mod_right, Nat.mod_eq_of_lt (by omega)]

theorem addF_nat {a b : Fp} (ha : a.nat < pN) (hb : b.nat < pN) : (addF a b).nat = (a.nat + b.nat) % pN := by
  unfold addF
  have h := addT_nat a b
  rw [lessF_nat _ _ (by rw [b2u_nat]; cases (addT a b).2 <;> simp) (by rw [b2u_nat, h]; omega), b2u_nat, h]

theorem subF_nat {a b : Fp} (ha : a.nat < pN) (hb : b.nat < pN) : (subF a b).nat = (a.nat + pN - b.nat) % pN := by
  have h1 := subT_nat a b
  have h2 := (subT a b).1.nat_lt
  have hp : pN < rN := by decide +kernel
  have hd : decide (b2u (subT a b).2 = 0) = decide ((subT a b).2.toNat = 0) := by
    refine decide_eq_decide.2 ⟨fun h => by rw [← b2u_nat, h]; rfl, fun h => UInt64.toNat.inj (by rw [b2u_nat, h]; rfl)⟩
  unfold subF
  rw [hd]
  by_cases hc : (subT a b).2.toNat = 0
  · simp only [hc, decide_true]
    rw [hc] at h1
    rw [show a.nat + pN - b.nat = (subT a b).1.nat + pN by omega, Nat.add_mod_right, Nat.mod_eq_of_lt (by omega)]
  · simp only [hc, decide_false]
    have e1 : (subT a b).2.toNat = 1 := by cases h : (subT a b).2 <;> simp [h] at hc ⊢
    rw [e1] at h1
    have h3 := addT_nat (subT a b).1 pLimbs
    rw [pLimbs_nat] at h3
    have h4 := (addT (subT a b).1 pLimbs).1.nat_lt
    have e2 : (addT (subT a b).1 pLimbs).2.toNat = 1 := by
      cases h : (addT (subT a b).1 pLimbs).2 with
      | true => rfl
      | false => rw [h] at h3; simp only [Bool.toNat_false] at h3; omega
    rw [e2] at h3
    rw [Nat.mod_eq_of_lt (by omega)]
    omega

end Go.Proofs.Ytfkmooldindfjaa
