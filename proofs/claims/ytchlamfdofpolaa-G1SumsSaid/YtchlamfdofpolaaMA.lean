/- Parts Ma, Mb, Mc, Na, Nb, Md, Me, joined. -/
import Derived.Test.YtchlamfdofpolaaFA
import Init
/- The base field's plain law, part a: numbers of limbs, sums and differences. -/
set_option linter.unusedSimpArgs false
set_option linter.unusedVariables false
namespace Go.Proofs.Ytchlamfdofpolaa

/-- 2^64 -/
def W64 : Nat := 18446744073709551616

/-- The modulus. -/
def pN : Nat := 0x1a0111ea397fe69a4b1ba7b6434bacd764774b84f38512bf6730d2a0f6b0f6241eabfffeb153ffffb9feffffffffaaab
/-- 2^384 -/
def rN : Nat := 0x1000000000000000000000000000000000000000000000000000000000000000000000000000000000000000000000000

def Fp.nat (a : Fp) : Nat := a.l0.toNat + W64 * (a.l1.toNat + W64 * (a.l2.toNat + W64 * (a.l3.toNat + W64 * (a.l4.toNat + W64 * a.l5.toNat))))

theorem Fp.nat_lt (a : Fp) : a.nat < rN := by
  have h0 := a.l0.toNat_lt
  have h1 := a.l1.toNat_lt
  have h2 := a.l2.toNat_lt
  have h3 := a.l3.toNat_lt
  have h4 := a.l4.toNat_lt
  have h5 := a.l5.toNat_lt
  unfold Fp.nat rN W64
  omega

theorem Fp.nat_inj {a b : Fp} (h : a.nat = b.nat) : a = b := by
  have h0 := a.l0.toNat_lt
  have h1 := a.l1.toNat_lt
  have h2 := a.l2.toNat_lt
  have h3 := a.l3.toNat_lt
  have h4 := a.l4.toNat_lt
  have h5 := a.l5.toNat_lt
  have k0 := b.l0.toNat_lt
  have k1 := b.l1.toNat_lt
  have k2 := b.l2.toNat_lt
  have k3 := b.l3.toNat_lt
  have k4 := b.l4.toNat_lt
  have k5 := b.l5.toNat_lt
  unfold Fp.nat W64 at h
  obtain ⟨a0, a1, a2, a3, a4, a5⟩ := a
  obtain ⟨b0, b1, b2, b3, b4, b5⟩ := b
  simp only [] at *
  have e0 : a0 = b0 := UInt64.toNat.inj (by omega)
  have e1 : a1 = b1 := UInt64.toNat.inj (by omega)
  have e2 : a2 = b2 := UInt64.toNat.inj (by omega)
  have e3 : a3 = b3 := UInt64.toNat.inj (by omega)
  have e4 : a4 = b4 := UInt64.toNat.inj (by omega)
  have e5 : a5 = b5 := UInt64.toNat.inj (by omega)
  rw [e0, e1, e2, e3, e4, e5]

theorem pLimbs_nat : pLimbs.nat = pN := by decide +kernel

theorem add_step (x y : UInt64) (c : Bool) : (addS x y c).toNat + W64 * (addC x y c).toNat = x.toNat + y.toNat + c.toNat := by
  rw [addS_nat, addC_nat]
  unfold W64
  omega

theorem subB_nat (x y : UInt64) (c : Bool) : (subB x y c).toNat = if x.toNat < y.toNat + c.toNat then 1 else 0 := by
  rw [subB_iff]
  by_cases h : x.toNat < y.toNat + c.toNat <;> simp [h]

theorem sub_step (x y : UInt64) (c : Bool) : (subS x y c).toNat + y.toNat + c.toNat = x.toNat + W64 * (subB x y c).toNat := by
  have hx := x.toNat_lt
  have hy := y.toNat_lt
  have hc : c.toNat ≤ 1 := by cases c <;> simp
  rw [subS_nat, subB_nat]
  unfold W64
  split <;> omega

theorem addT_nat (a b : Fp) : (addT a b).1.nat + rN * (addT a b).2.toNat = a.nat + b.nat := by
  unfold addT
  simp only []
  have s0 := add_step a.l0 b.l0 false
  generalize addC a.l0 b.l0 false = c0 at *
  have s1 := add_step a.l1 b.l1 c0
  generalize addC a.l1 b.l1 c0 = c1 at *
  have s2 := add_step a.l2 b.l2 c1
  generalize addC a.l2 b.l2 c1 = c2 at *
  have s3 := add_step a.l3 b.l3 c2
  generalize addC a.l3 b.l3 c2 = c3 at *
  have s4 := add_step a.l4 b.l4 c3
  generalize addC a.l4 b.l4 c3 = c4 at *
  have s5 := add_step a.l5 b.l5 c4
  generalize addC a.l5 b.l5 c4 = c5 at *
  unfold Fp.nat rN W64 at *
  simp only [Bool.toNat_false] at *
  omega

theorem subT_nat (a b : Fp) : (subT a b).1.nat + b.nat = a.nat + rN * (subT a b).2.toNat := by
  unfold subT
  simp only []
  have s0 := sub_step a.l0 b.l0 false
  generalize subB a.l0 b.l0 false = c0 at *
  have s1 := sub_step a.l1 b.l1 c0
  generalize subB a.l1 b.l1 c0 = c1 at *
  have s2 := sub_step a.l2 b.l2 c1
  generalize subB a.l2 b.l2 c1 = c2 at *
  have s3 := sub_step a.l3 b.l3 c2
  generalize subB a.l3 b.l3 c2 = c3 at *
  have s4 := sub_step a.l4 b.l4 c3
  generalize subB a.l4 b.l4 c3 = c4 at *
  have s5 := sub_step a.l5 b.l5 c4
  generalize subB a.l5 b.l5 c4 = c5 at *
  unfold Fp.nat rN W64 at *
  simp only [Bool.toNat_false] at *
  omega

theorem lessT_eq (a : Fp) : lessT a = subT a pLimbs := rfl

/-- The modulus taken away once, of a number and a limb on top that is 0 or 1. -/
theorem lessF_nat (a : Fp) (o : UInt64) (ho : o.toNat ≤ 1) (h : a.nat + rN * o.toNat < 2 * pN) : (lessF a o).nat = (a.nat + rN * o.toNat) % pN := by
  have h1 := subT_nat a pLimbs
  rw [pLimbs_nat] at h1
  have h2 := (subT a pLimbs).1.nat_lt
  have h3 := a.nat_lt
  have hb : (subT a pLimbs).2.toNat ≤ 1 := by cases (subT a pLimbs).2 <;> simp
  have hd : decide (o < b2u (lessT a).2) = decide (o.toNat < (subT a pLimbs).2.toNat) := by
    rw [lessT_eq]
    refine decide_eq_decide.2 ?_
    rw [UInt64.lt_iff_toNat_lt, b2u_nat]
  unfold lessF
  rw [hd, lessT_eq]
  have hp : pN < rN := by decide +kernel
  have hp0 : 0 < pN := by decide +kernel
  by_cases hc : o.toNat < (subT a pLimbs).2.toNat
  · simp only [hc, decide_true]
    have e0 : o.toNat = 0 := by omega
    have e1 : (subT a pLimbs).2.toNat = 1 := by omega
    rw [e0] at h ⊢
    rw [e1] at h1
    rw [Nat.mod_eq_of_lt (by omega)]
    omega
  · simp only [hc, decide_false]
    have e2 : (subT a pLimbs).1.nat + pN = a.nat + rN * o.toNat := by
      rcases Nat.lt_or_ge (subT a pLimbs).2.toNat o.toNat with hl | hl
      · have e0 : o.toNat = 1 := by omega
        have e1 : (subT a pLimbs).2.toNat = 0 := by omega
        rw [e1] at h1
        rw [e0] at h ⊢
        omega
      · have e1 : (subT a pLimbs).2.toNat = o.toNat := by omega
        rw [e1] at h1
        exact h1
    rw [← e2, Nat.add_mod_right, Nat.mod_eq_of_lt (by omega)]

theorem addF_nat {a b : Fp} (ha : a.nat < pN) (hb : b.nat < pN) : (addF a b).nat = (a.nat + b.nat) % pN := by
  unfold addF
  have h := addT_nat a b
  rw [lessF_nat _ _ (by rw [b2u_nat]; cases (addT a b).2 <;> simp) (by rw [b2u_nat, h]; omega), b2u_nat, h]

theorem subF_nat {a b : Fp} (ha : a.nat < pN) (hb : b.nat < pN) : (subF a b).nat = (a.nat + pN - b.nat) % pN := by
  have h1 := subT_nat a b
  have h2 := (subT a b).1.nat_lt
  have hp : pN < rN := by decide +kernel
  have hd : decide (b2u (subT a b).2 = 0) = decide ((subT a b).2.toNat = 0) := by
    refine decide_eq_decide.2 ⟨fun h => by rw [← b2u_nat, h]; rfl, fun h => UInt64.toNat.inj (by rw [b2u_nat, h]; rfl)⟩
  unfold subF
  rw [hd]
  by_cases hc : (subT a b).2.toNat = 0
  · simp only [hc, decide_true]
    rw [hc] at h1
    rw [show a.nat + pN - b.nat = (subT a b).1.nat + pN by omega, Nat.add_mod_right, Nat.mod_eq_of_lt (by omega)]
  · simp only [hc, decide_false]
    have e1 : (subT a b).2.toNat = 1 := by cases h : (subT a b).2 <;> simp [h] at hc ⊢
    rw [e1] at h1
    have h3 := addT_nat (subT a b).1 pLimbs
    rw [pLimbs_nat] at h3
    have h4 := (addT (subT a b).1 pLimbs).1.nat_lt
    have e2 : (addT (subT a b).1 pLimbs).2.toNat = 1 := by
      cases h : (addT (subT a b).1 pLimbs).2 with
      | true => rfl
      | false => rw [h] at h3; simp only [Bool.toNat_false] at h3; omega
    rw [e2] at h3
    rw [Nat.mod_eq_of_lt (by omega)]
    omega

end Go.Proofs.Ytchlamfdofpolaa

/- The base field's plain law, part b: Montgomery's product. -/
set_option linter.unusedSimpArgs false
set_option linter.unusedVariables false
namespace Go.Proofs.Ytchlamfdofpolaa

def L7.nat (t : L7) : Nat := t.t0.toNat + W64 * (t.t1.toNat + W64 * (t.t2.toNat + W64 * (t.t3.toNat + W64 * (t.t4.toNat + W64 * (t.t5.toNat + W64 * t.t6.toNat)))))

theorem L7.nat_low (t : L7) : t.nat = t.low.nat + rN * t.t6.toNat := by
  unfold L7.nat L7.low Fp.nat rN W64
  simp only []
  omega

theorem zip0 (y t U : Nat) : y + t + W64 * U = (t + W64 * U) + y := by omega
theorem zipS {y t U T Y : Nat} (h : U = T + Y) : y + t + W64 * U = (t + W64 * T) + (y + W64 * Y) := by
  subst h
  unfold W64
  omega
theorem zipE {A d T Y t y : Nat} (h : A = T + Y) (q : d * W64 = y + t) : (A + d) * W64 = (t + W64 * T) + (y + W64 * Y) := by
  rw [h, Nat.add_mul, q, Nat.add_mul, Nat.mul_comm T, Nat.mul_comm Y]
  omega

theorem mac_w (x y t c : UInt64) : (macH x y t c).toNat * W64 + (macL x y t c).toNat = x.toNat * y.toNat + t.toNat + c.toNat := mac_nat x y t c

/-- A step of a sum of limbs: what is above, and a limb. -/
theorem limb_step {m d y t c R U : Nat} (q : d * W64 + m = y + t + c) (h : R = U + d) : m + W64 * R = (y + t + W64 * U) + c := by
  subst h
  unfold W64 at *
  omega

theorem low_step (t : UInt64) : (mulHi (t * pInv) pLimbs.l0 + b2u (addC (t * pInv * pLimbs.l0) t false)).toNat * W64 = (t * pInv).toNat * pLimbs.l0.toNat + t.toNat := by
  generalize hx : t * pInv = x
  have hx' : x.toNat = t.toNat * 9940570264628428797 % 18446744073709551616 := by rw [← hx, UInt64.toNat_mul]; rfl
  have hp : pLimbs.l0.toNat = 13402431016077863595 := rfl
  have ht := t.toNat_lt
  have hlt := x.toNat_lt
  rw [UInt64.toNat_add, b2u_nat, addC_nat, mulHi_nat, UInt64.toNat_mul, hp]
  simp only [Bool.toNat_false, Nat.add_zero]
  unfold W64
  have key : (x.toNat * 13402431016077863595 % 18446744073709551616 + t.toNat) % 18446744073709551616 = 0 := by
    rw [hx']
    omega
  omega

theorem roundB_nat (t0 t1 t2 t3 t4 t5 top : UInt64) (more : Bool) :
    (roundB t0 t1 t2 t3 t4 t5 top more).nat * W64 = (t0.toNat + W64 * (t1.toNat + W64 * (t2.toNat + W64 * (t3.toNat + W64 * (t4.toNat + W64 * (t5.toNat + W64 * (top.toNat + W64 * more.toNat))))))) + (t0 * pInv).toNat * pN := by
  have q0 := low_step t0
  unfold roundB
  simp only [L7.nat]
  generalize mulHi (t0 * pInv) pLimbs.l0 + b2u (addC (t0 * pInv * pLimbs.l0) t0 false) = d0 at *
  generalize t0 * pInv = x at *
  have q1 := mac_w x pLimbs.l1 t1 d0
  generalize macH x pLimbs.l1 t1 d0 = d1 at *
  have q2 := mac_w x pLimbs.l2 t2 d1
  generalize macH x pLimbs.l2 t2 d1 = d2 at *
  have q3 := mac_w x pLimbs.l3 t3 d2
  generalize macH x pLimbs.l3 t3 d2 = d3 at *
  have q4 := mac_w x pLimbs.l4 t4 d3
  generalize macH x pLimbs.l4 t4 d3 = d4 at *
  have q5 := mac_w x pLimbs.l5 t5 d4
  generalize macH x pLimbs.l5 t5 d4 = d5 at *
  have q6 := add_step top d5 false
  have q7 : (b2u more + b2u (addC top d5 false)).toNat = more.toNat + (addC top d5 false).toNat := by
    rw [UInt64.toNat_add, b2u_nat, b2u_nat]
    cases more <;> cases addC top d5 false <;> rfl
  rw [q7]
  have ep : pN = pLimbs.l0.toNat + W64 * (pLimbs.l1.toNat + W64 * (pLimbs.l2.toNat + W64 * (pLimbs.l3.toNat + W64 * (pLimbs.l4.toNat + W64 * pLimbs.l5.toNat)))) := by decide +kernel
  have exp : x.toNat * pN = x.toNat * pLimbs.l0.toNat + W64 * (x.toNat * pLimbs.l1.toNat + W64 * (x.toNat * pLimbs.l2.toNat + W64 * (x.toNat * pLimbs.l3.toNat + W64 * (x.toNat * pLimbs.l4.toNat + W64 * (x.toNat * pLimbs.l5.toNat))))) := by
    rw [ep]
    simp only [Nat.mul_add, Nat.mul_left_comm x.toNat W64]
  rw [exp]
  have s6 : (addS top d5 false).toNat + W64 * (more.toNat + (addC top d5 false).toNat) = (top.toNat + W64 * more.toNat) + d5.toNat := by
    simp only [Bool.toNat_false] at q6
    unfold W64 at *
    omega
  have s5 := limb_step q5 s6
  have s4 := limb_step q4 s5
  have s3 := limb_step q3 s4
  have s2 := limb_step q2 s3
  have s1 := limb_step q1 s2
  rw [s1]
  generalize x.toNat * pLimbs.l0.toNat = y0 at *
  generalize x.toNat * pLimbs.l1.toNat = y1 at *
  generalize x.toNat * pLimbs.l2.toNat = y2 at *
  generalize x.toNat * pLimbs.l3.toNat = y3 at *
  generalize x.toNat * pLimbs.l4.toNat = y4 at *
  generalize x.toNat * pLimbs.l5.toNat = y5 at *
  exact zipE (zipS (zipS (zipS (zipS (zip0 _ _ _))))) q0

theorem roundF_nat (a : Fp) (b : UInt64) (t : L7) : ∃ m : Nat, m < W64 ∧ (roundF a b t).nat * W64 = t.nat + a.nat * b.toNat + m * pN := by
  unfold roundF
  simp only []
  have q0 := mac_w a.l0 b t.t0 0
  generalize macH a.l0 b t.t0 0 = c0 at *
  have q1 := mac_w a.l1 b t.t1 c0
  generalize macH a.l1 b t.t1 c0 = c1 at *
  have q2 := mac_w a.l2 b t.t2 c1
  generalize macH a.l2 b t.t2 c1 = c2 at *
  have q3 := mac_w a.l3 b t.t3 c2
  generalize macH a.l3 b t.t3 c2 = c3 at *
  have q4 := mac_w a.l4 b t.t4 c3
  generalize macH a.l4 b t.t4 c3 = c4 at *
  have q5 := mac_w a.l5 b t.t5 c4
  generalize macH a.l5 b t.t5 c4 = c5 at *
  have q6 := add_step t.t6 c5 false
  refine ⟨(macL a.l0 b t.t0 0 * pInv).toNat, UInt64.toNat_lt _, ?_⟩
  rw [roundB_nat]
  refine congrArg (fun z => z + (macL a.l0 b t.t0 0 * pInv).toNat * pN) ?_
  have e : a.nat * b.toNat = a.l0.toNat * b.toNat + W64 * (a.l1.toNat * b.toNat + W64 * (a.l2.toNat * b.toNat + W64 * (a.l3.toNat * b.toNat + W64 * (a.l4.toNat * b.toNat + W64 * (a.l5.toNat * b.toNat))))) := by
    unfold Fp.nat
    simp only [Nat.add_mul, Nat.mul_assoc]
  rw [e]
  have s6 : (addS t.t6 c5 false).toNat + W64 * (addC t.t6 c5 false).toNat = t.t6.toNat + c5.toNat := by simpa using q6
  have s5 := limb_step q5 s6
  have s4 := limb_step q4 s5
  have s3 := limb_step q3 s4
  have s2 := limb_step q2 s3
  have s1 := limb_step q1 s2
  have s0 := limb_step q0 s1
  rw [s0]
  have z : (0 : UInt64).toNat = 0 := rfl
  rw [z, L7.nat]
  generalize a.l0.toNat * b.toNat = x0 at *
  generalize a.l1.toNat * b.toNat = x1 at *
  generalize a.l2.toNat * b.toNat = x2 at *
  generalize a.l3.toNat * b.toNat = x3 at *
  generalize a.l4.toNat * b.toNat = x4 at *
  generalize a.l5.toNat * b.toNat = x5 at *
  rw [Nat.add_zero]
  exact zipS (zipS (zipS (zipS (zipS (zip0 _ _ _)))))

theorem round_bound {a : Fp} {b : UInt64} {t : L7} (h : t.nat < a.nat + pN) : (roundF a b t).nat < a.nat + pN := by
  obtain ⟨m, hm, e⟩ := roundF_nat a b t
  have hb := b.toNat_lt
  have h1 : a.nat * b.toNat ≤ a.nat * (W64 - 1) := Nat.mul_le_mul_left _ (by unfold W64; omega)
  have h2 : m * pN ≤ (W64 - 1) * pN := Nat.mul_le_mul_right _ (by omega)
  have h3 : (roundF a b t).nat * W64 < (a.nat + pN) * W64 := by
    rw [e]
    unfold W64 at *
    omega
  exact Nat.lt_of_mul_lt_mul_right h3

set_option maxRecDepth 100000 in
/-- Six rounds. -/
theorem halfT_nat (a b : Fp) : ∃ k : Nat, (halfT a b).nat * rN = a.nat * b.nat + k * pN ∧ (halfT a b).nat < a.nat + pN := by
  have hp0 : 0 < pN := by decide +kernel
  obtain ⟨m0, _, e0⟩ := roundF_nat a b.l0 ⟨0, 0, 0, 0, 0, 0, 0⟩
  obtain ⟨m1, _, e1⟩ := roundF_nat a b.l1 (half1 a b)
  obtain ⟨m2, _, e2⟩ := roundF_nat a b.l2 (half2 a b)
  obtain ⟨m3, _, e3⟩ := roundF_nat a b.l3 (half3 a b)
  obtain ⟨m4, _, e4⟩ := roundF_nat a b.l4 (half4 a b)
  obtain ⟨m5, _, e5⟩ := roundF_nat a b.l5 (half5 a b)
  have z : (L7.mk 0 0 0 0 0 0 0).nat = 0 := by decide +kernel
  have b0 : (half1 a b).nat < a.nat + pN := round_bound (by rw [z]; omega)
  have b1 : (half2 a b).nat < a.nat + pN := round_bound b0
  have b2 : (half3 a b).nat < a.nat + pN := round_bound b1
  have b3 : (half4 a b).nat < a.nat + pN := round_bound b2
  have b4 : (half5 a b).nat < a.nat + pN := round_bound b3
  refine ⟨m0 + W64 * (m1 + W64 * (m2 + W64 * (m3 + W64 * (m4 + W64 * m5)))), ?_, round_bound b4⟩
  rw [z] at e0
  change (half1 a b).nat * W64 = _ at e0
  change (half2 a b).nat * W64 = _ at e1
  change (half3 a b).nat * W64 = _ at e2
  change (half4 a b).nat * W64 = _ at e3
  change (half5 a b).nat * W64 = _ at e4
  change (halfT a b).nat * W64 = _ at e5
  have er : rN = W64 * (W64 * (W64 * (W64 * (W64 * W64)))) := by decide +kernel
  have eb : a.nat * b.nat = a.nat * b.l0.toNat + W64 * (a.nat * b.l1.toNat + W64 * (a.nat * b.l2.toNat + W64 * (a.nat * b.l3.toNat + W64 * (a.nat * b.l4.toNat + W64 * (a.nat * b.l5.toNat))))) := by
    rw [show b.nat = b.l0.toNat + W64 * (b.l1.toNat + W64 * (b.l2.toNat + W64 * (b.l3.toNat + W64 * (b.l4.toNat + W64 * b.l5.toNat)))) from rfl]
    simp only [Nat.mul_add, Nat.mul_left_comm a.nat W64]
  have ek : (m0 + W64 * (m1 + W64 * (m2 + W64 * (m3 + W64 * (m4 + W64 * m5))))) * pN = m0 * pN + W64 * (m1 * pN + W64 * (m2 * pN + W64 * (m3 * pN + W64 * (m4 * pN + W64 * (m5 * pN))))) := by
    simp only [Nat.add_mul, Nat.mul_assoc]
  rw [er, eb, ek]
  have st : ∀ {t' t z R : Nat}, t' * W64 = t + z → ∀ s : Nat, t' * (W64 * s) = (t + z) * s := fun h s => by rw [← Nat.mul_assoc, h]
  rw [st (R := 0) (t := (half5 a b).nat) (z := a.nat * b.l5.toNat + m5 * pN) (by rw [e5, Nat.add_assoc])]
  rw [Nat.add_mul, st (R := 0) (t := (half4 a b).nat) (z := a.nat * b.l4.toNat + m4 * pN) (by rw [e4, Nat.add_assoc])]
  rw [Nat.add_mul _ _ (W64 * (W64 * (W64 * W64))), st (R := 0) (t := (half3 a b).nat) (z := a.nat * b.l3.toNat + m3 * pN) (by rw [e3, Nat.add_assoc])]
  rw [Nat.add_mul _ _ (W64 * (W64 * W64)), st (R := 0) (t := (half2 a b).nat) (z := a.nat * b.l2.toNat + m2 * pN) (by rw [e2, Nat.add_assoc])]
  rw [Nat.add_mul _ _ (W64 * W64), st (R := 0) (t := (half1 a b).nat) (z := a.nat * b.l1.toNat + m1 * pN) (by rw [e1, Nat.add_assoc])]
  rw [Nat.add_mul _ _ W64, e0]
  generalize a.nat * b.l0.toNat = x0
  generalize a.nat * b.l1.toNat = x1
  generalize a.nat * b.l2.toNat = x2
  generalize a.nat * b.l3.toNat = x3
  generalize a.nat * b.l4.toNat = x4
  generalize a.nat * b.l5.toNat = x5
  generalize m0 * pN = y0
  generalize m1 * pN = y1
  generalize m2 * pN = y2
  generalize m3 * pN = y3
  generalize m4 * pN = y4
  generalize m5 * pN = y5
  clear e0 e1 e2 e3 e4 e5 eb ek st
  unfold W64
  omega

/-- Montgomery's product of two numbers of which one is below the modulus. -/
theorem halfF_nat {a b : Fp} (ha : a.nat < pN) : (halfF a b).nat < pN ∧ ((halfF a b).nat * rN) % pN = (a.nat * b.nat) % pN := by
  obtain ⟨k, h1, h2⟩ := halfT_nat a b
  rw [L7.nat_low] at h1 h2
  have hlt := (halfT a b).low.nat_lt
  have hpr : 2 * pN < rN := by decide +kernel
  have hp0 : 0 < pN := by decide +kernel
  have h6 : (halfT a b).t6.toNat ≤ 1 := by
    rcases Nat.lt_or_ge (halfT a b).t6.toNat 1 with h | h
    · omega
    · have : rN * 1 ≤ rN * (halfT a b).t6.toNat := Nat.mul_le_mul_left _ h
      omega
  have h := lessF_nat (halfT a b).low (halfT a b).t6 h6 (by omega)
  have e : (halfF a b).nat = ((halfT a b).low.nat + rN * (halfT a b).t6.toNat) % pN := h
  rw [e]
  refine ⟨Nat.mod_lt _ hp0, ?_⟩
  rw [Nat.mod_mul_mod, h1, Nat.add_mul_mod_self_right]

end Go.Proofs.Ytchlamfdofpolaa

/- The base field's plain law, part c: products and powers. -/
set_option linter.unusedSimpArgs false
set_option linter.unusedVariables false
namespace Go.Proofs.Ytchlamfdofpolaa

/-- What 2^384 times itself is 1. -/
def rInv : Nat := 0x14fec701e8fb0ce9ed5e64273c4f538b1797ab1458a88de9343ea97914956dc87fe11274d898fafbf4d38259380b4820

theorem r_inv : rN * rInv % pN = 1 := by decide +kernel

theorem r_cancel {x y : Nat} (h : x * rN % pN = y * rN % pN) : x % pN = y % pN := by
  have e : ∀ z : Nat, z % pN = (z * rN % pN) * rInv % pN := by
    intro z
    rw [Nat.mod_mul_mod, Nat.mul_assoc, Nat.mul_mod, r_inv, Nat.mul_one, Nat.mod_mod]
  rw [e x, e y, h]

theorem sq_nat : sqLimbs.nat = rN * rN % pN := by decide +kernel
theorem one_nat : oneFp.nat = 1 := by decide +kernel
theorem zero_nat : zeroFp.nat = 0 := by decide +kernel
theorem pN_pos : 0 < pN := by decide +kernel

theorem wholeF_nat {a : Fp} (ha : a.nat < pN) : (wholeF a).nat = a.nat * rN % pN := by
  obtain ⟨h1, h2⟩ := halfF_nat (b := sqLimbs) ha
  have h3 : (wholeF a).nat * rN % pN = (a.nat * rN) * rN % pN := by
    rw [show (wholeF a).nat = (halfF a sqLimbs).nat from rfl, h2, sq_nat, Nat.mul_mod_mod, Nat.mul_assoc]
  rw [← r_cancel h3]
  exact (Nat.mod_eq_of_lt h1).symm

theorem lowF_nat {a : Fp} (ha : a.nat < pN) : (lowF a).nat < pN ∧ (lowF a).nat * rN % pN = a.nat := by
  obtain ⟨h1, h2⟩ := halfF_nat (b := oneFp) ha
  rw [one_nat, Nat.mul_one, Nat.mod_eq_of_lt ha] at h2
  exact ⟨h1, h2⟩

theorem mulF_nat {a b : Fp} (ha : a.nat < pN) : (mulF a b).nat = a.nat * b.nat % pN := by
  obtain ⟨h1, h2⟩ := halfF_nat (b := b) ha
  rw [show mulF a b = wholeF (halfF a b) from rfl, wholeF_nat h1, h2]

theorem mulF_lt {a b : Fp} (ha : a.nat < pN) : (mulF a b).nat < pN := by rw [mulF_nat ha]; exact Nat.mod_lt _ pN_pos
theorem addF_lt {a b : Fp} (ha : a.nat < pN) (hb : b.nat < pN) : (addF a b).nat < pN := by rw [addF_nat ha hb]; exact Nat.mod_lt _ pN_pos
theorem subF_lt {a b : Fp} (ha : a.nat < pN) (hb : b.nat < pN) : (subF a b).nat < pN := by rw [subF_nat ha hb]; exact Nat.mod_lt _ pN_pos
theorem negF_nat {a : Fp} (ha : a.nat < pN) : (negF a).nat = (pN - a.nat) % pN := by
  rw [show negF a = subF zeroFp a from rfl, subF_nat (by rw [zero_nat]; exact pN_pos) ha, zero_nat, Nat.zero_add]

/-- The bits below n. -/
def eLow (e : List UInt64) : Nat → Nat
  | 0 => 0
  | n + 1 => eLow e n + (bitAt e n).toNat * 2 ^ n

theorem powAt_nat {x : Fp} {a : Nat} (e : List UInt64) (hx : x.nat = a * rN % pN) : ∀ (n : Nat) (o : Fp) (v : Nat), o.nat = v * rN % pN →
    (powAt x e n o).nat = v ^ 2 ^ n * a ^ eLow e n % pN
  | 0, o, v, ho => by
    have hlt : o.nat < pN := by rw [ho]; exact Nat.mod_lt _ pN_pos
    obtain ⟨h1, h2⟩ := lowF_nat hlt
    have h3 := r_cancel (h2.trans ho)
    simp only [powAt, eLow, Nat.pow_zero, Nat.pow_one, Nat.mul_one]
    rw [← h3]
    exact (Nat.mod_eq_of_lt h1).symm
  | n + 1, o, v, ho => by
    have hlt : o.nat < pN := by rw [ho]; exact Nat.mod_lt _ pN_pos
    have hmul : ∀ {p q : Fp} {s t : Nat}, p.nat = s * rN % pN → q.nat = t * rN % pN → (halfF p q).nat = (s * t) * rN % pN := by
      intro p q s t hp hq
      obtain ⟨h1, h2⟩ := halfF_nat (a := p) (b := q) (by rw [hp]; exact Nat.mod_lt _ pN_pos)
      have h3 : (halfF p q).nat * rN % pN = ((s * t) * rN) * rN % pN := by
        rw [h2, hp, hq, ← Nat.mul_mod]
        refine congrArg (fun z => z % pN) ?_
        simp only [Nat.mul_assoc, Nat.mul_left_comm, Nat.mul_comm]
      have h4 := r_cancel h3
      rw [← h4]
      exact (Nat.mod_eq_of_lt h1).symm
    have h1 := hmul ho ho
    simp only [powAt]
    cases hb : bitAt e n with
    | true =>
      simp only []
      rw [powAt_nat e hx n _ _ (hmul h1 hx)]
      simp only [eLow, hb, Bool.toNat_true, Nat.one_mul]
      refine congrArg (fun z => z % pN) ?_
      rw [Nat.mul_pow, ← Nat.pow_two, ← Nat.pow_mul, show 2 ^ (n + 1) = 2 * 2 ^ n by rw [Nat.pow_succ, Nat.mul_comm], Nat.pow_add a, Nat.mul_assoc, Nat.mul_comm (a ^ 2 ^ n)]
    | false =>
      simp only []
      rw [powAt_nat e hx n _ _ h1]
      simp only [eLow, hb, Bool.toNat_false, Nat.zero_mul, Nat.add_zero]
      refine congrArg (fun z => z % pN) ?_
      rw [← Nat.pow_two, ← Nat.pow_mul, show 2 ^ (n + 1) = 2 * 2 ^ n by rw [Nat.pow_succ, Nat.mul_comm]]

theorem powF_nat {a : Fp} (ha : a.nat < pN) (e : List UInt64) : (powF a e).nat = a.nat ^ eLow e (64 * e.length) % pN := by
  unfold powF
  have h1 : (1 : Nat) < pN := by decide +kernel
  rw [powAt_nat e (wholeF_nat ha) _ _ 1 (by rw [wholeF_nat (by rw [one_nat]; exact h1), one_nat])]
  rw [Nat.one_pow, Nat.one_mul]

end Go.Proofs.Ytchlamfdofpolaa

/- Plain numbers, part a: Fermat's little theorem, and Pocklington's test. -/
set_option linter.unusedSimpArgs false
set_option linter.unusedVariables false
namespace Go.Proofs.Ytchlamfdofpolaa

def IsPrime (p : Nat) : Prop := 1 < p ∧ ∀ d, d ∣ p → d = 1 ∨ d = p

theorem IsPrime.pos {p : Nat} (h : IsPrime p) : 0 < p := by have := h.1; omega

theorem IsPrime.coprime {p a : Nat} (h : IsPrime p) (ha : ¬ p ∣ a) : Nat.gcd p a = 1 := by
  rcases h.2 _ (Nat.gcd_dvd_left p a) with h1 | h1
  · exact h1
  · exact absurd (h1 ▸ Nat.gcd_dvd_right p a) ha

theorem IsPrime.dvd_mul {p a b : Nat} (h : IsPrime p) (hd : p ∣ a * b) : p ∣ a ∨ p ∣ b := by
  by_cases ha : p ∣ a
  · exact .inl ha
  · exact .inr (Nat.Coprime.dvd_of_dvd_mul_left (h.coprime ha) hd)

theorem IsPrime.dvd_pow {p a : Nat} (h : IsPrime p) : ∀ {n : Nat}, p ∣ a ^ n → p ∣ a
  | 0, hd => by
    have := Nat.le_of_dvd (by simp) hd
    have := h.1
    simp at *
    omega
  | n + 1, hd => by
    rw [Nat.pow_succ] at hd
    rcases h.dvd_mul hd with h1 | h1
    · exact h.dvd_pow h1
    · exact h1

/-! ## the binomial theorem -/

def ch : Nat → Nat → Nat
  | _, 0 => 1
  | 0, _ + 1 => 0
  | n + 1, k + 1 => ch n k + ch n (k + 1)

theorem ch_zero (n : Nat) : ch n 0 = 1 := by cases n <;> rfl

theorem ch_big : ∀ {n k : Nat}, n < k → ch n k = 0
  | 0, k + 1, _ => rfl
  | n + 1, k + 1, h => by simp only [ch]; rw [ch_big (by omega), ch_big (by omega)]

theorem ch_self : ∀ n : Nat, ch n n = 1
  | 0 => rfl
  | n + 1 => by simp only [ch]; rw [ch_self n, ch_big (by omega)]

theorem ch_mul : ∀ n k : Nat, (k + 1) * ch (n + 1) (k + 1) = (n + 1) * ch n k
  | 0, 0 => rfl
  | 0, k + 1 => by simp [ch]
  | n + 1, 0 => by
    have h := ch_mul n 0
    simp only [ch_zero, Nat.zero_add, Nat.one_mul, Nat.mul_one] at h ⊢
    show ch (n + 1) 0 + ch (n + 1) 1 = n + 1 + 1
    rw [ch_zero, h]
    omega
  | n + 1, j + 1 => by
    have h1 := ch_mul n j
    have h2 := ch_mul n (j + 1)
    have e : ch (n + 1) (j + 1) = ch n j + ch n (j + 1) := rfl
    show (j + 1 + 1) * (ch (n + 1) (j + 1) + ch (n + 1) (j + 1 + 1)) = (n + 1 + 1) * ch (n + 1) (j + 1)
    rw [Nat.mul_add, h2, Nat.succ_mul (j + 1), h1]
    rw [Nat.succ_mul (n + 1), e, Nat.mul_add]
    omega

def bs (a n : Nat) : Nat → Nat
  | 0 => 0
  | m + 1 => bs a n m + ch n m * a ^ m

theorem bs_step (a n : Nat) : ∀ m : Nat, bs a (n + 1) (m + 1) = bs a n (m + 1) + a * bs a n m
  | 0 => by simp [bs, ch_zero]
  | m + 1 => by
    have h := bs_step a n m
    show bs a (n + 1) (m + 1) + ch (n + 1) (m + 1) * a ^ (m + 1) = bs a n (m + 1) + ch n (m + 1) * a ^ (m + 1) + a * (bs a n m + ch n m * a ^ m)
    rw [h, show ch (n + 1) (m + 1) = ch n m + ch n (m + 1) from rfl, Nat.add_mul, Nat.mul_add, Nat.pow_succ]
    have : ch n m * (a ^ m * a) = a * (ch n m * a ^ m) := by rw [← Nat.mul_assoc, Nat.mul_comm]
    omega

theorem binom (a : Nat) : ∀ n : Nat, (a + 1) ^ n = bs a n (n + 1)
  | 0 => by simp [bs, ch]
  | n + 1 => by
    rw [bs_step a n (n + 1), show bs a n (n + 1 + 1) = bs a n (n + 1) + ch n (n + 1) * a ^ (n + 1) from rfl, ch_big (Nat.lt_succ_self n), Nat.zero_mul, Nat.add_zero, ← binom a n, Nat.pow_succ, Nat.mul_add, Nat.mul_one, Nat.mul_comm a]
    omega

theorem ch_prime {p k : Nat} (h : IsPrime p) (h0 : 0 < k) (hk : k < p) : p ∣ ch p k := by
  obtain ⟨j, rfl⟩ : ∃ j, k = j + 1 := ⟨k - 1, by omega⟩
  obtain ⟨n, rfl⟩ : ∃ n, p = n + 1 := ⟨p - 1, by omega⟩
  have hd : n + 1 ∣ (j + 1) * ch (n + 1) (j + 1) := ⟨ch n j, ch_mul n j⟩
  rcases h.dvd_mul hd with h1 | h1
  · exact absurd (Nat.le_of_dvd (by omega) h1) (by omega)
  · exact h1

theorem bs_prime {p : Nat} (h : IsPrime p) (a : Nat) : ∀ m : Nat, m < p → bs a p (m + 1) % p = 1
  | 0, _ => by
    simp only [bs, ch_zero, Nat.pow_zero, Nat.mul_one, Nat.zero_add]
    exact Nat.mod_eq_of_lt h.1
  | m + 1, hm => by
    have ih := bs_prime h a m (by omega)
    obtain ⟨c, hc⟩ := ch_prime h (Nat.succ_pos m) hm
    show (bs a p (m + 1) + ch p (m + 1) * a ^ (m + 1)) % p = 1
    rw [hc, Nat.mul_assoc, Nat.add_mul_mod_self_left]
    exact ih

theorem fermat_a {p : Nat} (h : IsPrime p) : ∀ a : Nat, a ^ p % p = a % p
  | 0 => by
    have := h.pos
    rw [Nat.zero_pow this]
  | a + 1 => by
    have ih := fermat_a h a
    have hp := h.1
    obtain ⟨n, rfl⟩ : ∃ n, p = n + 1 := ⟨p - 1, by omega⟩
    rw [binom a (n + 1), show bs a (n + 1) (n + 1 + 1) = bs a (n + 1) (n + 1) + ch (n + 1) (n + 1) * a ^ (n + 1) from rfl, ch_self, Nat.one_mul, Nat.add_mod, bs_prime h a n (by omega), ih]
    rw [Nat.add_mod a 1, Nat.mod_eq_of_lt hp, Nat.add_comm]

theorem fermat {p a : Nat} (h : IsPrime p) (ha : ¬ p ∣ a) : a ^ (p - 1) % p = 1 := by
  have hp := h.1
  have h1 := fermat_a h a
  obtain ⟨n, rfl⟩ : ∃ n, p = n + 1 := ⟨p - 1, by omega⟩
  rw [Nat.add_sub_cancel]
  have h0 : 0 < a := Nat.pos_of_ne_zero (by rintro rfl; exact ha ⟨0, rfl⟩)
  have hle : a ≤ a ^ (n + 1) := Nat.le_self_pow (by omega) a
  have hd : n + 1 ∣ a ^ (n + 1) - a := Nat.dvd_of_mod_eq_zero (Nat.sub_mod_eq_zero_of_mod_eq h1)
  have h2 : 1 ≤ a ^ n := Nat.one_le_pow _ _ h0
  have e : a ^ (n + 1) - a = a * (a ^ n - 1) := by rw [Nat.pow_succ, Nat.mul_sub, Nat.mul_one, Nat.mul_comm]
  rw [e] at hd
  rcases h.dvd_mul hd with h3 | h3
  · exact absurd h3 ha
  · obtain ⟨c, hc⟩ := h3
    rw [show a ^ n = (n + 1) * c + 1 by omega, Nat.mul_add_mod]
    exact Nat.mod_eq_of_lt hp

/-! ## a prime divisor -/

theorem exists_prime_dvd : ∀ n : Nat, 1 < n → ∃ p, IsPrime p ∧ p ∣ n := by
  intro n
  induction n using Nat.strongRecOn with
  | ind n ih =>
    intro hn
    by_cases h : IsPrime n
    · exact ⟨n, h, Nat.dvd_refl n⟩
    · have : ∃ d, d ∣ n ∧ d ≠ 1 ∧ d ≠ n := by
        apply Classical.byContradiction
        intro hc
        refine h ⟨hn, fun d hd => ?_⟩
        by_cases h1 : d = 1
        · exact .inl h1
        · by_cases h2 : d = n
          · exact .inr h2
          · exact absurd ⟨d, hd, h1, h2⟩ hc
      obtain ⟨d, hd, h1, h2⟩ := this
      have hdn := Nat.le_of_dvd (by omega) hd
      have hd0 : d ≠ 0 := by
        rintro rfl
        have := Nat.eq_zero_of_zero_dvd hd
        omega
      obtain ⟨p, hp, hpd⟩ := ih d (by omega) (by omega)
      exact ⟨p, hp, Nat.dvd_trans hpd hd⟩

theorem pow_gcd {d b : Nat} (hd : 1 < d) : ∀ m n : Nat, b ^ m % d = 1 → b ^ n % d = 1 → b ^ Nat.gcd m n % d = 1 := by
  intro m n
  induction m, n using Nat.gcd.induction with
  | H0 n => intro _ h; rw [Nat.gcd_zero_left]; exact h
  | H1 m n hm ih =>
    intro h1 h2
    rw [Nat.gcd_rec]
    refine ih ?_ h1
    have e : b ^ n % d = (b ^ m) ^ (n / m) * b ^ (n % m) % d := by rw [← Nat.pow_mul, ← Nat.pow_add, Nat.div_add_mod]
    rw [h2, Nat.mul_mod, Nat.pow_mod, h1, Nat.one_pow, Nat.mod_eq_of_lt hd, Nat.one_mul, Nat.mod_mod] at e
    exact e.symm

/-- What Pocklington's test tells of each prime divisor. -/
theorem pock_key {n q r a : Nat} (hn : n = q * r + 1) (hq : IsPrime q) (hr : 0 < r) (h1 : a ^ (q * r) % n = 1) (h2 : Nat.gcd (a ^ r % n + (n - 1)) n = 1) {d : Nat} (hd : IsPrime d) (hdn : d ∣ n) : q ∣ d - 1 := by
  have hq1 := hq.1
  have hn1 : 1 < n := by
    have : 0 < q * r := Nat.mul_pos (by omega) hr
    omega
  have hd1 := hd.1
  have hb : (a ^ r) ^ q % d = 1 := by
    rw [← Nat.pow_mul, Nat.mul_comm r q]
    have : a ^ (q * r) % n % d = a ^ (q * r) % d := Nat.mod_mod_of_dvd _ hdn
    rw [← this, h1, Nat.mod_eq_of_lt hd1]
  have hnd : ¬ d ∣ a ^ r := by
    intro h
    obtain ⟨c, hc⟩ := h
    rw [hc, Nat.mul_pow, Nat.mul_mod] at hb
    have : d ^ q % d = 0 := by
      obtain ⟨k, rfl⟩ : ∃ k, q = k + 1 := ⟨q - 1, by omega⟩
      rw [Nat.pow_succ, Nat.mul_mod_left]
    rw [this] at hb
    simp at hb
  have hf := fermat hd hnd
  have hne : a ^ r % d ≠ 1 := by
    intro h
    have hdd : d ∣ a ^ r % n + (n - 1) := by
      have e : (a ^ r % n) % d = 1 := by rw [Nat.mod_mod_of_dvd _ hdn]; exact h
      have e2 : (a ^ r % n + (n - 1) + 1) % d = 1 := by
        rw [show a ^ r % n + (n - 1) + 1 = a ^ r % n + n by omega, Nat.add_mod, e]
        obtain ⟨c, hc⟩ := hdn
        rw [hc, Nat.mul_mod_right, Nat.add_zero, Nat.mod_eq_of_lt hd1]
      have e3 := Nat.sub_mod_eq_zero_of_mod_eq (e2.trans (Nat.mod_eq_of_lt hd1).symm)
      rw [Nat.add_sub_cancel] at e3
      exact Nat.dvd_of_mod_eq_zero e3
    have := Nat.dvd_gcd hdd hdn
    rw [h2] at this
    have := Nat.le_of_dvd (by omega) this
    omega
  apply Classical.byContradiction
  intro hc
  have hg := hq.coprime hc
  have := pow_gcd hd1 q (d - 1) hb hf
  rw [hg, Nat.pow_one] at this
  exact hne this

/-- Pocklington's test: a prime not far below the root; the few divisors that might be are tried. -/
theorem pocklington {n q r a K : Nat} (hn : n = q * r + 1) (hq : IsPrime q) (hr : 0 < r) (hK : ∀ k, k < K → ¬ (q * (k + 1) + 1) ∣ n) (hqq : n < (q * (K + 1) + 1) * (q * (K + 1) + 1)) (h1 : a ^ (q * r) % n = 1) (h2 : Nat.gcd (a ^ r % n + (n - 1)) n = 1) : IsPrime n := by
  have hq1 := hq.1
  have hn1 : 1 < n := by
    have : 0 < q * r := Nat.mul_pos (by omega) hr
    omega
  refine ⟨hn1, fun x hx => ?_⟩
  have key : ∀ d, IsPrime d → d ∣ n → q * (K + 1) + 1 ≤ d := by
    intro d hd hdn
    obtain ⟨c, hc⟩ := pock_key hn hq hr h1 h2 hd hdn
    have hd1 := hd.1
    have hdc : d = q * c + 1 := by omega
    rcases Nat.lt_or_ge K c with h | h
    · have := Nat.mul_le_mul_left q (show K + 1 ≤ c from h)
      omega
    · have hc0 : c ≠ 0 := by rintro rfl; omega
      obtain ⟨k, rfl⟩ : ∃ k, c = k + 1 := ⟨c - 1, by omega⟩
      exact absurd (hdc ▸ hdn) (hK k (by omega))
  by_cases hx1 : x = 1
  · exact .inl hx1
  · right
    obtain ⟨y, hy⟩ := hx
    have hx0 : x ≠ 0 := by rintro rfl; omega
    by_cases hy1 : y = 1
    · subst hy1; omega
    · have hy0 : y ≠ 0 := by rintro rfl; omega
      obtain ⟨d, hd, hdx⟩ := exists_prime_dvd x (by omega)
      obtain ⟨e, he, hey⟩ := exists_prime_dvd y (by omega)
      have k1 := key d hd (Nat.dvd_trans hdx ⟨y, hy⟩)
      have k2 := key e he (Nat.dvd_trans hey ⟨x, by rw [hy, Nat.mul_comm]⟩)
      have l1 := Nat.le_of_dvd (by omega) hdx
      have l2 := Nat.le_of_dvd (by omega) hey
      have := Nat.mul_le_mul (show q * (K + 1) + 1 ≤ x by omega) (show q * (K + 1) + 1 ≤ y by omega)
      omega

end Go.Proofs.Ytchlamfdofpolaa

/- Plain numbers, part b: that the modulus is prime. -/
set_option linter.unusedSimpArgs false
set_option linter.unusedVariables false
namespace Go.Proofs.Ytchlamfdofpolaa

/-- A power modulo n. -/
def mpow : Nat → Nat → Nat → Nat → Nat
  | 0, _, _, n => 1 % n
  | k + 1, a, e, n => match Nat.beq e 0 with
    | true => 1 % n
    | false => match Nat.beq (e % 2) 1 with
      | true => a * mpow k (a * a % n) (e / 2) n % n
      | false => mpow k (a * a % n) (e / 2) n

theorem mpow_eq (n : Nat) : ∀ (k a e : Nat), e < 2 ^ k → mpow k a e n = a ^ e % n
  | 0, a, e, h => by
    obtain rfl : e = 0 := by simpa using h
    rfl
  | k + 1, a, e, h => by
    unfold mpow
    cases h0 : Nat.beq e 0 with
    | true =>
      have := Nat.eq_of_beq_eq_true h0
      subst this
      rfl
    | false =>
      have hlt : e / 2 < 2 ^ k := by rw [Nat.pow_succ] at h; omega
      have ih := mpow_eq n k (a * a % n) (e / 2) hlt
      have e1 : (a * a % n) ^ (e / 2) % n = a ^ (2 * (e / 2)) % n := by rw [← Nat.pow_mod, ← Nat.pow_two, ← Nat.pow_mul]
      cases h1 : Nat.beq (e % 2) 1 with
      | true =>
        have h1 := Nat.eq_of_beq_eq_true h1
        simp only []
        rw [ih, e1, Nat.mul_mod_mod]
        refine congrArg (fun z => z % n) ?_
        rw [show a ^ e = a ^ (2 * (e / 2) + 1) by congr 1; omega, Nat.pow_succ, Nat.mul_comm]
      | false =>
        have h1 := Nat.ne_of_beq_eq_false h1
        simp only []
        rw [ih, e1]
        refine congrArg (fun z => a ^ z % n) ?_
        omega

/-- Pocklington's test, to be computed. -/
theorem pock {n q r a k : Nat} (K : Nat) (hn : n = q * r + 1) (hq : IsPrime q) (hr : 0 < r) (hK : ∀ k, k < K → ¬ (q * (k + 1) + 1) ∣ n) (hqq : n < (q * (K + 1) + 1) * (q * (K + 1) + 1)) (hk : q * r < 2 ^ k) (h1 : mpow k a (q * r) n = 1) (h2 : Nat.gcd (mpow k a r n + (n - 1)) n = 1) : IsPrime n := by
  have hrq : r < 2 ^ k := Nat.lt_of_le_of_lt (Nat.le_mul_of_pos_left r (by have := hq.1; omega)) hk
  rw [mpow_eq n k a _ hk] at h1
  rw [mpow_eq n k a _ hrq] at h2
  exact pocklington hn hq hr hK hqq h1 h2

/-- No divisors up to the root. -/
def noDiv (n : Nat) : Nat → Nat → Bool
  | 0, _ => true
  | k + 1, d => match Nat.beq (n % d) 0 with
    | true => false
    | false => noDiv n k (d + 1)

theorem noDiv_spec {n : Nat} : ∀ {k d : Nat}, noDiv n k d = true → ∀ x, d ≤ x → x < d + k → ¬ x ∣ n
  | 0, d, _, x, h1, h2 => by omega
  | k + 1, d, h, x, h1, h2 => by
    simp only [noDiv] at h
    split at h
    · cases h
    · rename_i hb
      have hb := Nat.ne_of_beq_eq_false hb
      rcases Nat.lt_or_ge d x with hlt | hge
      · exact noDiv_spec h x hlt (by omega)
      · obtain rfl : x = d := by omega
        exact fun hd => hb (Nat.mod_eq_zero_of_dvd hd)

theorem prime_of_noDiv {n k : Nat} (hn : 1 < n) (h : noDiv n k 2 = true) (hk : n < (k + 2) * (k + 2)) : IsPrime n := by
  refine ⟨hn, fun d hd => ?_⟩
  obtain ⟨y, hy⟩ := hd
  have hd0 : d ≠ 0 := by rintro rfl; omega
  have hy0 : y ≠ 0 := by rintro rfl; omega
  by_cases h1 : d = 1
  · exact .inl h1
  · right
    by_cases h2 : y = 1
    · subst h2; omega
    · have k1 : k + 2 ≤ d := by
        rcases Nat.lt_or_ge d (2 + k) with hl | hl
        · exact absurd ⟨y, hy⟩ (noDiv_spec h d (by omega) hl)
        · omega
      have k2 : k + 2 ≤ y := by
        rcases Nat.lt_or_ge y (2 + k) with hl | hl
        · exact absurd ⟨d, by rw [hy, Nat.mul_comm]⟩ (noDiv_spec h y (by omega) hl)
        · omega
      have := Nat.mul_le_mul k1 k2
      omega

theorem prime_u : IsPrime 421987 := prime_of_noDiv (k := 700) (by decide) (by decide +kernel) (by decide)
theorem prime_t : IsPrime 13090036741 := pock 0 (q := 421987) (r := 31020) (a := 2) (k := 34) (by decide) prime_u (by decide) (fun k h => absurd h (by omega)) (by decide) (by decide) (by decide +kernel) (by decide +kernel)
theorem prime_s : IsPrime 3819663927398918131021 := pock 4 (q := 13090036741) (r := 291799328220) (a := 2) (k := 72) (by decide) prime_t (by decide) (by decide +kernel) (by decide +kernel) (by decide +kernel) (by decide +kernel) (by decide +kernel)
theorem prime_r : IsPrime 1125266252156850182658904441386709967 := pock 0 (q := 3819663927398918131021) (r := 294598235223046) (a := 2) (k := 120) (by decide +kernel) prime_s (by decide) (fun k h => absurd h (by omega)) (by decide +kernel) (by decide +kernel) (by decide +kernel) (by decide +kernel)
theorem prime_q : IsPrime 15778400344354997994418419698270088123916926905054652752758194827714659 := pock 0 (q := 1125266252156850182658904441386709967) (r := 14021926201120671579994175730661374) (a := 2) (k := 234) (by decide +kernel) prime_r (by decide +kernel) (fun k h => absurd h (by omega)) (by decide +kernel) (by decide +kernel) (by decide +kernel) (by decide +kernel)
theorem prime_p : IsPrime pN := pock 0 (q := 15778400344354997994418419698270088123916926905054652752758194827714659) (r := 253663835868735594330404923636534084567099854) (a := 2) (k := 381) (by decide +kernel) prime_q (by decide +kernel) (fun k h => absurd h (by omega)) (by decide +kernel) (by decide +kernel) (by decide +kernel) (by decide +kernel)

end Go.Proofs.Ytchlamfdofpolaa

/- The base field's plain law, part d: comparisons. -/
set_option linter.unusedSimpArgs false
set_option linter.unusedVariables false
namespace Go.Proofs.Ytchlamfdofpolaa

/-- The value of the limbs below n. -/
def valAt (xs : List UInt64) : Nat → Nat
  | 0 => 0
  | n + 1 => valAt xs n + (atF xs n).toNat * W64 ^ n

theorem valAt_lt (xs : List UInt64) : ∀ n, valAt xs n < W64 ^ n
  | 0 => by simp [valAt]
  | n + 1 => by
    have ih := valAt_lt xs n
    have h := (atF xs n).toNat_lt
    have h1 : (atF xs n).toNat * W64 ^ n ≤ (W64 - 1) * W64 ^ n := Nat.mul_le_mul_right _ (by unfold W64; omega)
    have h2 : W64 ^ (n + 1) = (W64 - 1) * W64 ^ n + W64 ^ n := by
      rw [Nat.pow_succ, Nat.mul_comm, Nat.sub_mul, Nat.one_mul]
      have : W64 ^ n ≤ W64 * W64 ^ n := Nat.le_mul_of_pos_left _ (by unfold W64; omega)
      omega
    simp only [valAt]
    omega

theorem val_step {x y p q : Nat} {w a b : Nat} (hp : p < w) (hq : q < w) : a < b → p + a * w < q + b * w := by
  intro h
  have : (a + 1) * w ≤ b * w := Nat.mul_le_mul_right _ h
  rw [Nat.add_mul, Nat.one_mul] at this
  omega

theorem cmpAt_val (xs ys : List UInt64) : ∀ n, cmpAt xs ys n = if valAt xs n < valAt ys n then -1 else if valAt xs n > valAt ys n then 1 else 0
  | 0 => by simp [cmpAt, valAt]
  | n + 1 => by
    have ih := cmpAt_val xs ys n
    have h1 := valAt_lt xs n
    have h2 := valAt_lt ys n
    have e1 : valAt xs (n + 1) = valAt xs n + (atF xs n).toNat * W64 ^ n := rfl
    have e2 : valAt ys (n + 1) = valAt ys n + (atF ys n).toNat * W64 ^ n := rfl
    rw [e1, e2]
    show (if atF xs n < atF ys n then -1 else if atF xs n > atF ys n then 1 else cmpAt xs ys n) = _
    by_cases ha : atF xs n < atF ys n
    · have := UInt64.lt_iff_toNat_lt.1 ha
      have := val_step (x := 0) (y := 0) h1 h2 this
      rw [if_pos ha, if_pos this]
    · rw [if_neg ha]
      by_cases hb : atF xs n > atF ys n
      · have := UInt64.lt_iff_toNat_lt.1 hb
        have := val_step (x := 0) (y := 0) h2 h1 this
        rw [if_pos hb, if_neg (by omega), if_pos this]
      · rw [if_neg hb, ih]
        have e : (atF xs n).toNat = (atF ys n).toNat := by
          have h3 := mt UInt64.lt_iff_toNat_lt.2 ha
          have h4 := mt UInt64.lt_iff_toNat_lt.2 hb
          omega
        rw [e]
        simp only [Nat.add_lt_add_iff_right, gt_iff_lt]

theorem list_val (a : Fp) : valAt a.list 6 = a.nat := by
  simp only [valAt, atF, Fp.list, Fp.nat, List.getD_eq_getElem?_getD, List.getElem?_cons_zero, List.getElem?_cons_succ, Option.getD_some]
  generalize a.l0.toNat = x0
  generalize a.l1.toNat = x1
  generalize a.l2.toNat = x2
  generalize a.l3.toNat = x3
  generalize a.l4.toNat = x4
  generalize a.l5.toNat = x5
  simp only [Nat.pow_succ, Nat.pow_zero, Nat.one_mul, Nat.mul_one, Nat.mul_add, Nat.mul_assoc, Nat.mul_comm, Nat.mul_left_comm, Nat.zero_add]
  omega

theorem cmp_nat (a b : Fp) : cmpF a.list b.list = if a.nat < b.nat then -1 else if a.nat > b.nat then 1 else 0 := by
  have h : cmpF a.list b.list = cmpAt a.list b.list 6 := by
    unfold cmpF maxI
    rfl
  rw [h, cmpAt_val, list_val, list_val]

theorem mayF_nat (a : Fp) : mayF a = decide (a.nat < pN) := by
  unfold mayF
  rw [cmp_nat, pLimbs_nat]
  refine decide_eq_decide.2 ?_
  split
  · rename_i h; simp [h]
  · rename_i h
    simp only [h, iff_false]
    split <;> omega

def hN : Nat := pN / 2
theorem halved_nat : (halvedF pLimbs).nat = hN := by decide +kernel

theorem greatF_nat (a : Fp) : greatF a = decide (hN < a.nat) := by
  unfold greatF
  rw [cmp_nat, halved_nat]
  refine decide_eq_decide.2 ?_
  split
  · rename_i h; constructor <;> intro h' <;> omega
  · split
    · rename_i h h2; constructor <;> intro h' <;> omega
    · rename_i h h2; constructor <;> intro h' <;> omega

theorem u64_ne {x y : UInt64} : (x != y) = true ↔ x.toNat ≠ y.toNat := by
  simp only [bne_iff_ne, ne_eq]
  exact ⟨fun h e => h (UInt64.toNat.inj e), fun h e => h (by rw [e])⟩

theorem belowF_nat (a m : Fp) : belowF a m = decide (a.nat < m.nat) := by
  have h0 := a.l0.toNat_lt
  have h1 := a.l1.toNat_lt
  have h2 := a.l2.toNat_lt
  have h3 := a.l3.toNat_lt
  have h4 := a.l4.toNat_lt
  have k0 := m.l0.toNat_lt
  have k1 := m.l1.toNat_lt
  have k2 := m.l2.toNat_lt
  have k3 := m.l3.toNat_lt
  have k4 := m.l4.toNat_lt
  have same : ∀ {x y : UInt64}, (x != y) = false → x.toNat = y.toNat := fun h => by
    simp only [bne_eq_false_iff_eq] at h
    rw [h]
  unfold belowF
  cases e5 : a.l5 != m.l5 with
  | true =>
    have := u64_ne.1 e5
    refine decide_eq_decide.2 ?_
    rw [UInt64.lt_iff_toNat_lt]
    unfold Fp.nat W64
    omega
  | false =>
    have e5 := same e5
    simp only []
    cases e4 : a.l4 != m.l4 with
    | true =>
      have := u64_ne.1 e4
      refine decide_eq_decide.2 ?_
      rw [UInt64.lt_iff_toNat_lt]
      unfold Fp.nat W64
      omega
    | false =>
      have e4 := same e4
      simp only []
      cases e3 : a.l3 != m.l3 with
      | true =>
        have := u64_ne.1 e3
        refine decide_eq_decide.2 ?_
        rw [UInt64.lt_iff_toNat_lt]
        unfold Fp.nat W64
        omega
      | false =>
        have e3 := same e3
        simp only []
        cases e2 : a.l2 != m.l2 with
        | true =>
          have := u64_ne.1 e2
          refine decide_eq_decide.2 ?_
          rw [UInt64.lt_iff_toNat_lt]
          unfold Fp.nat W64
          omega
        | false =>
          have e2 := same e2
          simp only []
          cases e1 : a.l1 != m.l1 with
          | true =>
            have := u64_ne.1 e1
            refine decide_eq_decide.2 ?_
            rw [UInt64.lt_iff_toNat_lt]
            unfold Fp.nat W64
            omega
          | false =>
            have e1 := same e1
            simp only []
            cases e0 : a.l0 != m.l0 with
            | true =>
              have := u64_ne.1 e0
              refine decide_eq_decide.2 ?_
              rw [UInt64.lt_iff_toNat_lt]
              unfold Fp.nat W64
              omega
            | false =>
              have e0 := same e0
              refine (decide_eq_false ?_).symm
              unfold Fp.nat W64
              omega

theorem mayPF_nat (a : Fp) : mayPF a = decide (a.nat < pN) := by
  rw [show mayPF a = belowF a pLimbs from rfl, belowF_nat, pLimbs_nat]

theorem fpEq_nat (a b : Fp) : fpEq a b = decide (a.nat = b.nat) := by
  by_cases h : a = b
  · subst h; rw [(fpEq_iff a a).2 rfl]; simp
  · have h1 : fpEq a b = false := by
      cases e : fpEq a b with
      | true => exact absurd ((fpEq_iff a b).1 e) h
      | false => rfl
    rw [h1]
    exact (decide_eq_false fun e => h (Fp.nat_inj e)).symm

end Go.Proofs.Ytchlamfdofpolaa

/- The base field's plain law, part e: a field. -/
set_option linter.unusedSimpArgs false
set_option linter.unusedVariables false
namespace Go.Proofs.Ytchlamfdofpolaa

theorem of_nat (n : UInt64) : (ofF n).nat = n.toNat := by
  unfold ofF Fp.nat
  simp only [show (0 : UInt64).toNat = 0 from rfl, Nat.mul_zero, Nat.add_zero]

theorem invE : eLow [pLimbs.l0 - 2, pLimbs.l1, pLimbs.l2, pLimbs.l3, pLimbs.l4, pLimbs.l5] (64 * 6) = pN - 2 := by decide +kernel

theorem not_dvd {a : Nat} (h : a < pN) (h0 : a ≠ 0) : ¬ pN ∣ a := fun hd => absurd (Nat.le_of_dvd (by omega) hd) (by omega)

theorem two_lt : 2 < pN := by decide +kernel

theorem inv_law {x : Fp} (hx : x.nat < pN) : (x.nat = 0 → (invF x).2 = 7) ∧ (x.nat ≠ 0 → (invF x).2 = 0 ∧ (invF x).1.nat < pN ∧ x.nat * (invF x).1.nat % pN = 1) := by
  unfold invF
  rw [fpEq_nat, zero_nat]
  refine ⟨fun h => ?_, fun h => ?_⟩
  · rw [decide_eq_true h]
  · rw [decide_eq_false h]
    simp only []
    have e : (powF x [pLimbs.l0 - 2, pLimbs.l1, pLimbs.l2, pLimbs.l3, pLimbs.l4, pLimbs.l5]).nat = x.nat ^ (pN - 2) % pN := by
      rw [powF_nat hx, show 64 * [pLimbs.l0 - 2, pLimbs.l1, pLimbs.l2, pLimbs.l3, pLimbs.l4, pLimbs.l5].length = 64 * 6 from rfl, invE]
    refine ⟨trivial, by rw [e]; exact Nat.mod_lt _ pN_pos, ?_⟩
    rw [e, Nat.mul_mod_mod]
    have h2 := two_lt
    have : x.nat * x.nat ^ (pN - 2) = x.nat ^ (pN - 1) := by rw [show pN - 1 = (pN - 2) + 1 by omega, Nat.pow_succ, Nat.mul_comm]
    rw [this]
    exact fermat prime_p (not_dvd hx h)

end Go.Proofs.Ytchlamfdofpolaa
