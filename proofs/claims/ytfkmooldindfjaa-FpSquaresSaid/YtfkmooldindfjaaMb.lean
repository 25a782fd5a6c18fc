/- The base field's plain law, part b: Montgomery's product. -/
import Derived.Test.YtfkmooldindfjaaMa
set_option linter.unusedSimpArgs false
set_option linter.unusedVariables false
namespace Go.Proofs.Ytfkmooldindfjaa

def L7.nat (t : L7) : Nat := t.t0.toNat + W64 * (t.t1.toNat + W64 * (t.t2.toNat + W64 * (t.t3.toNat + W64 * (t.t4.toNat + W64 * (t.t5.toNat + W64 * t.t6.toNat)))))

theorem L7.nat_low (t : L7) : t.nat = t.low.nat + rN * t.t6.toNat := by
  unfold L7.nat L7.low Fp.nat rN W64
  simp only []
  omega

theorem zip0 (y t U : Nat) : y + t + W64 * U = (t + W64 * U) + y := by omega
theorem zipS {y t U T Y : Nat} (h : U = T + Y) : y + t + W64 * U = (t + W64 * T) + (y + W64 * Y) := by
  subst h
  unfold W64
  omega
theorem zipE {A d T Y t y : Nat} (h : A = T + Y) (q : d * W64 = y + t) : (A + d) * W64 = (t + W64 * T) + (y + W64 * Y) := by
  rw [h, Nat.add_mul, q, Nat.add_mul, Nat.mul_comm T, Nat.mul_comm Y]
  omega

theorem mac_w (x y t c : UInt64) : (macH x y t c).toNat * W64 + (macL x y t c).toNat = x.toNat * y.toNat + t.toNat + c.toNat := mac_nat x y t c

/-- A step of a sum of limbs: what is above, and a limb. -/
theorem limb_step {m d y t c R U : Nat} (q : d * W64 + m = y + t + c) (h : R = U + d) : m + W64 * R = (y + t + W64 * U) + c := by
  subst h
  unfold W64 at *
  omega

theorem low_step (t : UInt64) : (mulHi (t * pInv) pLimbs.l0 + b2u (addC (t * pInv * pLimbs.l0) t false)).toNat * W64 = (t * pInv).toNat * pLimbs.l0.toNat + t.toNat := by
  generalize hx : t * pInv = x
  have hx' : x.toNat = t.toNat * 9940570264628428797 % 18446744073709551616 := by rw [← hx, UInt64.toNat_mul]; rfl
  have hp : pLimbs.l0.toNat = 13402431016077863595 := rfl
  have ht := t.toNat_lt
  have hlt := x.toNat_lt
  rw [UInt64.toNat_add, b2u_nat, addC_nat, mulHi_nat, UInt64.toNat_mul, hp]
  simp only [Bool.toNat_false, Nat.add_zero]
  unfold W64
  have key : (x.toNat * 13402431016077863595 % 18446744073709551616 + t.toNat) % 18446744073709551616 = 0 := by
    rw [hx']
    omega
  omega

theorem roundB_nat (t0 t1 t2 t3 t4 t5 top : UInt64) (more : Bool) :
    (roundB t0 t1 t2 t3 t4 t5 top more).nat * W64 = (t0.toNat + W64 * (t1.toNat + W64 * (t2.toNat + W64 * (t3.toNat + W64 * (t4.toNat + W64 * (t5.toNat + W64 * (top.toNat + W64 * more.toNat))))))) + (t0 * pInv).toNat * pN := by
  have q0 := low_step t0
  unfold roundB
  simp only [L7.nat]
  generalize mulHi (t0 * pInv) pLimbs.l0 + b2u (addC (t0 * pInv * pLimbs.l0) t0 false) = d0 at *
  generalize t0 * pInv = x at *
  have q1 := mac_w x pLimbs.l1 t1 d0
  generalize macH x pLimbs.l1 t1 d0 = d1 at *
  have q2 := mac_w x pLimbs.l2 t2 d1
  generalize macH x pLimbs.l2 t2 d1 = d2 at *
  have q3 := mac_w x pLimbs.l3 t3 d2
  generalize macH x pLimbs.l3 t3 d2 = d3 at *
  have q4 := mac_w x pLimbs.l4 t4 d3
  generalize macH x pLimbs.l4 t4 d3 = d4 at *
  have q5 := mac_w x pLimbs.l5 t5 d4
  generalize macH x pLimbs.l5 t5 d4 = d5 at *
  have q6 := add_step top d5 false
  have q7 : (b2u more + b2u (addC top d5 false)).toNat = more.toNat + (addC top d5 false).toNat := by
    rw [UInt64.toNat_add, b2u_nat, b2u_nat]
    cases more <;> cases addC top d5 false <;> rfl
  rw [q7]
  have ep : pN = pLimbs.l0.toNat + W64 * (pLimbs.l1.toNat + W64 * (pLimbs.l2.toNat + W64 * (pLimbs.l3.toNat + W64 * (pLimbs.l4.toNat + W64 * pLimbs.l5.toNat)))) := by decide +kernel
  have exp : x.toNat * pN = x.toNat * pLimbs.l0.toNat + W64 * (x.toNat * pLimbs.l1.toNat + W64 * (x.toNat * pLimbs.l2.toNat + W64 * (x.toNat * pLimbs.l3.toNat + W64 * (x.toNat * pLimbs.l4.toNat + W64 * (x.toNat * pLimbs.l5.toNat))))) := by
    rw [ep]
    simp only [Nat.mul_add, Nat.mul_left_comm x.toNat W64]
  rw [exp]
  have s6 : (addS top d5 false).toNat + W64 * (more.toNat + (addC top d5 false).toNat) = (top.toNat + W64 * more.toNat) + d5.toNat := by
    simp only [Bool.toNat_false] at q6
    unfold W64 at *
    omega
  have s5 := limb_step q5 s6
  have s4 := limb_step q4 s5
  have s3 := limb_step q3 s4
  have s2 := limb_step q2 s3
  have s1 := limb_step q1 s2
  rw [s1]
  generalize x.toNat * pLimbs.l0.toNat = y0 at *
  generalize x.toNat * pLimbs.l1.toNat = y1 at *
  generalize x.toNat * pLimbs.l2.toNat = y2 at *
  generalize x.toNat * pLimbs.l3.toNat = y3 at *
  generalize x.toNat * pLimbs.l4.toNat = y4 at *
  generalize x.toNat * pLimbs.l5.toNat = y5 at *
  exact zipE (zipS (zipS (zipS (zipS (zip0 _ _ _))))) q0

theorem roundF_nat (a : Fp) (b : UInt64) (t : L7) : ∃ m : Nat, m < W64 ∧ (roundF a b t).nat * W64 = t.nat + a.nat * b.toNat + m * pN := by
  unfold roundF
  simp only []
  have q0 := mac_w a.l0 b t.t0 0
  generalize macH a.l0 b t.t0 0 = c0 at *
  have q1 := mac_w a.l1 b t.t1 c0
  generalize macH a.l1 b t.t1 c0 = c1 at *
  have q2 := mac_w a.l2 b t.t2 c1
  generalize macH a.l2 b t.t2 c1 = c2 at *
  have q3 := mac_w a.l3 b t.t3 c2
  generalize macH a.l3 b t.t3 c2 = c3 at *
  have q4 := mac_w a.l4 b t.t4 c3
  generalize macH a.l4 b t.t4 c3 = c4 at *
  have q5 := mac_w a.l5 b t.t5 c4
  generalize macH a.l5 b t.t5 c4 = c5 at *
  have q6 := add_step t.t6 c5 false
  refine ⟨(macL a.l0 b t.t0 0 * pInv).toNat, UInt64.toNat_lt _, ?_⟩
  rw [roundB_nat]
  refine congrArg (fun z => z + (macL a.l0 b t.t0 0 * pInv).toNat * pN) ?_
  have e : a.nat * b.toNat = a.l0.toNat * b.toNat + W64 * (a.l1.toNat * b.toNat + W64 * (a.l2.toNat * b.toNat + W64 * (a.l3.toNat * b.toNat + W64 * (a.l4.toNat * b.toNat + W64 * (a.l5.toNat * b.toNat))))) := by
    unfold Fp.nat
    simp only [Nat.add_mul, Nat.mul_assoc]
  rw [e]
  have s6 : (addS t.t6 c5 false).toNat + W64 * (addC t.t6 c5 false).toNat = t.t6.toNat + c5.toNat := by simpa using q6
  have s5 := limb_step q5 s6
  have s4 := limb_step q4 s5
  have s3 := limb_step q3 s4
  have s2 := limb_step q2 s3
  have s1 := limb_step q1 s2
  have s0 := limb_step q0 s1
  rw [s0]
  have z : (0 : UInt64).toNat = 0 := rfl
  rw [z, L7.nat]
  generalize a.l0.toNat * b.toNat = x0 at *
  generalize a.l1.toNat * b.toNat = x1 at *
  generalize a.l2.toNat * b.toNat = x2 at *
  generalize a.l3.toNat * b.toNat = x3 at *
  generalize a.l4.toNat * b.toNat = x4 at *
  generalize a.l5.toNat * b.toNat = x5 at *
  rw [Nat.add_zero]
  exact zipS (zipS (zipS (zipS (zipS (zip0 _ _ _)))))

theorem round_bound {a : Fp} {b : UInt64} {t : L7} (h : t.nat < a.nat + pN) : (roundF a b t).nat < a.nat + pN := by
  obtain ⟨m, hm, e⟩ := roundF_nat a b t
  have hb := b.toNat_lt
  have h1 : a.nat * b.toNat ≤ a.nat * (W64 - 1) := Nat.mul_le_mul_left _ (by unfold W64; omega)
  have h2 : m * pN ≤ (W64 - 1) * pN := Nat.mul_le_mul_right _ (by omega)
  have h3 : (roundF a b t).nat * W64 < (a.nat + pN) * W64 := by
    rw [e]
    unfold W64 at *
    omega
  exact Nat.lt_of_mul_lt_mul_right h3

set_option maxRecDepth 100000 in
/-- Six rounds. -/
theorem halfT_nat (a b : Fp) : ∃ k : Nat, (halfT a b).nat * rN = a.nat * b.nat + k * pN ∧ (halfT a b).nat < a.nat + pN := by
  have hp0 : 0 < pN := by decide +kernel
  obtain ⟨m0, _, e0⟩ := roundF_nat a b.l0 ⟨0, 0, 0, 0, 0, 0, 0⟩
  obtain ⟨m1, _, e1⟩ := roundF_nat a b.l1 (half1 a b)
  obtain ⟨m2, _, e2⟩ := roundF_nat a b.l2 (half2 a b)
  obtain ⟨m3, _, e3⟩ := roundF_nat a b.l3 (half3 a b)
  obtain ⟨m4, _, e4⟩ := roundF_nat a b.l4 (half4 a b)
  obtain ⟨m5, _, e5⟩ := roundF_nat a b.l5 (half5 a b)
  have z : (L7.mk 0 0 0 0 0 0 0).nat = 0 := by decide +kernel
  have b0 : (half1 a b).nat < a.nat + pN := round_bound (by rw [z]; omega)
  have b1 : (half2 a b).nat < a.nat + pN := round_bound b0
  have b2 : (half3 a b).nat < a.nat + pN := round_bound b1
  have b3 : (half4 a b).nat < a.nat + pN := round_bound b2
  have b4 : (half5 a b).nat < a.nat + pN := round_bound b3
  refine ⟨m0 + W64 * (m1 + W64 * (m2 + W64 * (m3 + W64 * (m4 + W64 * m5)))), ?_, round_bound b4⟩
  rw [z] at e0
  change (half1 a b).nat * W64 = _ at e0
  change (half2 a b).nat * W64 = _ at e1
  change (half3 a b).nat * W64 = _ at e2
  change (half4 a b).nat * W64 = _ at e3
  change (half5 a b).nat * W64 = _ at e4
  change (halfT a b).nat * W64 = _ at e5
  have er : rN = W64 * (W64 * (W64 * (W64 * (W64 * W64)))) := by decide +kernel
  have eb : a.nat * b.nat = a.nat * b.l0.toNat + W64 * (a.nat * b.l1.toNat + W64 * (a.nat * b.l2.toNat + W64 * (a.nat * b.l3.toNat + W64 * (a.nat * b.l4.toNat + W64 * (a.nat * b.l5.toNat))))) := by
    rw [show b.nat = b.l0.toNat + W64 * (b.l1.toNat + W64 * (b.l2.toNat + W64 * (b.l3.toNat + W64 * (b.l4.toNat + W64 * b.l5.toNat)))) from rfl]
    simp only [Nat.mul_add, Nat.mul_left_comm a.nat W64]
  have ek : (m0 + W64 * (m1 + W64 * (m2 + W64 * (m3 + W64 * (m4 + W64 * m5))))) * pN = m0 * pN + W64 * (m1 * pN + W64 * (m2 * pN + W64 * (m3 * pN + W64 * (m4 * pN + W64 * (m5 * pN))))) := by
    simp only [Nat.add_mul, Nat.mul_assoc]
  rw [er, eb, ek]
  have st : ∀ {t' t z R : Nat}, t' * W64 = t + z → ∀ s : Nat, t' * (W64 * s) = (t + z) * s := fun h s => by rw [← Nat.mul_assoc, h]
  rw [st (R := 0) (t := (half5 a b).nat) (z := a.nat * b.l5.toNat + m5 * pN) (by rw [e5, Nat.add_assoc])]
  rw [Nat.add_mul, st (R := 0) (t := (half4 a b).nat) (z := a.nat * b.l4.toNat + m4 * pN) (by rw [e4, Nat.add_assoc])]
  rw [Nat.add_mul _ _ (W64 * (W64 * (W64 * W64))), st (R := 0) (t := (half3 a b).nat) (z := a.nat * b.l3.toNat + m3 * pN) (by rw [e3, Nat.add_assoc])]
  rw [Nat.add_mul _ _ (W64 * (W64 * W64)), st (R := 0) (t := (half2 a b).nat) (z := a.nat * b.l2.toNat + m2 * pN) (by rw [e2, Nat.add_assoc])]
  rw [Nat.add_mul _ _ (W64 * W64), st (R := 0) (t := (half1 a b).nat) (z := a.nat * b.l1.toNat + m1 * pN) (by rw [e1, Nat.add_assoc])]
  rw [Nat.add_mul _ _ W64, e0]
  generalize a.nat * b.l0.toNat = x0
  generalize a.nat * b.l1.toNat = x1
  generalize a.nat * b.l2.toNat = x2
  generalize a.nat * b.l3.toNat = x3
  generalize a.nat * b.l4.toNat = x4
  generalize a.nat * b.l5.toNat = x5
  generalize m0 * pN = y0
  generalize m1 * pN = y1
  generalize m2 * pN = y2
  generalize m3 * pN = y3
  generalize m4 * pN = y4
  generalize m5 * pN = y5
  clear e0 e1 e2 e3 e4 e5 eb ek st
  unfold W64
  omega

/-- Montgomery's product of two numbers of which one is below the modulus. -/
theorem halfF_nat {a b : Fp} (ha : a.nat < pN) : (halfF a b).nat < pN ∧ ((halfF a b).nat * rN) % pN = (a.nat * b.nat) % pN := by
  obtain ⟨k, h1, h2⟩ := halfT_nat a b
  rw [L7.nat_low] at h1 h2
  have hlt := (halfT a b).low.nat_lt
  have hpr : 2 * pN < rN := by decide +kernel
  have hp0 : 0 < pN := by decide +kernel
  have h6 : (halfT a b).t6.toNat ≤ 1 := by
    rcases Nat.lt_or_ge (halfT a b).t6.toNat 1 with h | h
    · omega
    · have : rN * 1 ≤ rN * (halfT a b).t6.toNat := Nat.mul_le_mul_left _ h
      omega
  have h := lessF_nat (halfT a b).low (halfT a b).t6 h6 (by omega)
  have e : (halfF a b).nat = ((halfT a b).low.nat + rN * (halfT a b).t6.toNat) % pN := h
  rw [e]
  refine ⟨Nat.mod_lt _ hp0, ?_⟩
  rw [Nat.mod_mul_mod, h1, Nat.add_mul_mod_self_right]

end Go.Proofs.Ytfkmooldindfjaa
