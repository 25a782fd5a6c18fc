/- The base field's plain law, part c: products and powers. -/
import Derived.Test.YtfkmooldindfjaaMb
set_option linter.unusedSimpArgs false
set_option linter.unusedVariables false
namespace Go.Proofs.Ytfkmooldindfjaa

/-- What 2^384 times itself is 1. -/
def rInv : Nat := 0x14fec701e8fb0ce9ed5e64273c4f538b1797ab1458a88de9343ea97914956dc87fe11274d898fafbf4d38259380b4820

theorem r_inv : rN * rInv % pN = 1 := by decide +kernel

theorem r_cancel {x y : Nat} (h : x * rN % pN = y * rN % pN) : x % pN = y % pN := by
  have e : ∀ z : Nat, z % pN = (z * rN % pN) * rInv % pN := by
    intro z
    rw [Nat.mod_mul_mod, Nat.mul_assoc, Nat.mul_mod, r_inv, Nat.mul_one, Nat.mod_mod]
  rw [e x, e y, h]

theorem sq_nat : sqLimbs.nat = rN * rN % pN := by decide +kernel
theorem one_nat : oneFp.nat = 1 := by decide +kernel
theorem zero_nat : zeroFp.nat = 0 := by decide +kernel
theorem pN_pos : 0 < pN := by decide +kernel

theorem wholeF_nat {a : Fp} (ha : a.nat < pN) : (wholeF a).nat = a.nat * rN % pN := by
  obtain ⟨h1, h2⟩ := halfF_nat (b := sqLimbs) ha
  have h3 : (wholeF a).nat * rN % pN = (a.nat * rN) * rN % pN := by
    rw [show (wholeF a).nat = (halfF a sqLimbs).nat from rfl, h2, sq_nat, Nat.mul_mod_mod, Nat.mul_assoc]
  rw [← r_cancel h3]
  exact (Nat.mod_eq_of_lt h1).symm

theorem lowF_nat {a : Fp} (ha : a.nat < pN) : (lowF a).nat < pN ∧ (lowF a).nat * rN % pN = a.nat := by
  obtain ⟨h1, h2⟩ := halfF_nat (b := oneFp) ha
  rw [one_nat, Nat.mul_one, Nat.mod_eq_of_lt ha] at h2
  exact ⟨h1, h2⟩

theorem mulF_nat {a b : Fp} (ha : a.nat < pN) : (mulF a b).nat = a.nat * b.nat % pN := by
  obtain ⟨h1, h2⟩ := halfF_nat (b := b) ha
  rw [show mulF a b = wholeF (halfF a b) from rfl, wholeF_nat h1, h2]

theorem mulF_lt {a b : Fp} (ha : a.nat < pN) : (mulF a b).nat < pN := by rw [mulF_nat ha]; exact Nat.mod_lt _ pN_pos
theorem addF_lt {a b : Fp} (ha : a.nat < pN) (hb : b.nat < pN) : (addF a b).nat < pN := by rw [addF_nat ha hb]; exact Nat.mod_lt _ pN_pos
theorem subF_lt {a b : Fp} (ha : a.nat < pN) (hb : b.nat < pN) : (subF a b).nat < pN := by rw [subF_nat ha hb]; exact Nat.mod_lt _ pN_pos
theorem negF_nat {a : Fp} (ha : a.nat < pN) : (negF a).nat = (pN - a.nat) % pN := by
  rw [show negF a = subF zeroFp a from rfl, subF_nat (by rw [zero_nat]; exact pN_pos) ha, zero_nat, Nat.zero_add]

/-- The bits below n. -/
def eLow (e : List UInt64) : Nat → Nat
  | 0 => 0
  | n + 1 => eLow e n + (bitAt e n).toNat * 2 ^ n

theorem powAt_nat {x : Fp} {a : Nat} (e : List UInt64) (hx : x.nat = a * rN % pN) : ∀ (n : Nat) (o : Fp) (v : Nat), o.nat = v * rN % pN →
    (powAt x e n o).nat = v ^ 2 ^ n * a ^ eLow e n % pN
  | 0, o, v, ho => by
    have hlt : o.nat < pN := by rw [ho]; exact Nat.mod_lt _ pN_pos
    obtain ⟨h1, h2⟩ := lowF_nat hlt
    have h3 := r_cancel (h2.trans ho)
    simp only [powAt, eLow, Nat.pow_zero, Nat.pow_one, Nat.mul_one]
    rw [← h3]
    exact (Nat.mod_eq_of_lt h1).symm
  | n + 1, o, v, ho => by
    have hlt : o.nat < pN := by rw [ho]; exact Nat.mod_lt _ pN_pos
    have hmul : ∀ {p q : Fp} {s t : Nat}, p.nat = s * rN % pN → q.nat = t * rN % pN → (halfF p q).nat = (s * t) * rN % pN := by
      intro p q s t hp hq
      obtain ⟨h1, h2⟩ := halfF_nat (a := p) (b := q) (by rw [hp]; exact Nat.mod_lt _ pN_pos)
      have h3 : (halfF p q).nat * rN % pN = ((s * t) * rN) * rN % pN := by
        rw [h2, hp, hq, ← Nat.mul_mod]
        refine congrArg (fun z => z % pN) ?_
        simp only [Nat.mul_assoc, Nat.mul_left_comm, Nat.mul_comm]
      have h4 := r_cancel h3
      rw [← h4]
      exact (Nat.mod_eq_of_lt h1).symm
    have h1 := hmul ho ho
    simp only [powAt]
    cases hb : bitAt e n with
    | true =>
      simp only []
      rw [powAt_nat e hx n _ _ (hmul h1 hx)]
      simp only [eLow, hb, Bool.toNat_true, Nat.one_mul]
      refine congrArg (fun z => z % pN) ?_
      rw [Nat.mul_pow, ← Nat.pow_two, ← Nat.pow_mul, show 2 ^ (n + 1) = 2 * 2 ^ n by rw [Nat.pow_succ, Nat.mul_comm], Nat.pow_add a, Nat.mul_assoc, Nat.mul_comm (a ^ 2 ^ n)]
    | false =>
      simp only []
      rw [powAt_nat e hx n _ _ h1]
      simp only [eLow, hb, Bool.toNat_false, Nat.zero_mul, Nat.add_zero]
      refine congrArg (fun z => z % pN) ?_
      rw [← Nat.pow_two, ← Nat.pow_mul, show 2 ^ (n + 1) = 2 * 2 ^ n by rw [Nat.pow_succ, Nat.mul_comm]]

theorem powF_nat {a : Fp} (ha : a.nat < pN) (e : List UInt64) : (powF a e).nat = a.nat ^ eLow e (64 * e.length) % pN := by
  unfold powF
  have h1 : (1 : Nat) < pN := by decide +kernel
  rw [powAt_nat e (wholeF_nat ha) _ _ 1 (by rw [wholeF_nat (by rw [one_nat]; exact h1), one_nat])]
  rw [Nat.one_pow, Nat.one_mul]

end Go.Proofs.Ytfkmooldindfjaa
