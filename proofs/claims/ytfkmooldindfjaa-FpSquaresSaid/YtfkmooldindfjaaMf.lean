/- The base field's plain law, part f: its values are a field. -/
import Derived.Test.YtfkmooldindfjaaMe
import Derived.Test.YtfkmooldindfjaaLa
set_option linter.unusedSimpArgs false
set_option linter.unusedVariables false
namespace Go.Proofs.Ytfkmooldindfjaa

instance : NeZero pN := ⟨by decide +kernel⟩

/-- Numbers modulo P. -/
def V1 : Type := Fin pN
def V1.of (n : Nat) : V1 := Fin.ofNat pN n
def V1.nat (a : V1) : Nat := Fin.val a

theorem V1.nat_lt (a : V1) : a.nat < pN := Fin.isLt a
theorem V1.nat_of (n : Nat) : (V1.of n).nat = n % pN := rfl
theorem V1.ext {a b : V1} (h : a.nat = b.nat) : a = b := Fin.eq_of_val_eq h
theorem V1.of_nat (a : V1) : V1.of a.nat = a := V1.ext (by rw [V1.nat_of, Nat.mod_eq_of_lt a.nat_lt])

def V1.add (a b : V1) : V1 := V1.of (a.nat + b.nat)
def V1.mul (a b : V1) : V1 := V1.of (a.nat * b.nat)
def V1.neg (a : V1) : V1 := V1.of (pN - a.nat)
def V1.sub (a b : V1) : V1 := V1.of (a.nat + (pN - b.nat))
def V1.inv (a : V1) : V1 := V1.of (mpow 381 a.nat (pN - 2) pN)

theorem one_lt_p : 1 < pN := by decide +kernel

theorem V1.one_mod : 1 % pN = 1 := Nat.mod_eq_of_lt one_lt_p

instance : CR V1 where
  add := V1.add
  mul := V1.mul
  neg := V1.neg
  sub := V1.sub
  z := V1.of 0
  o := V1.of 1
  add_zero := fun a => V1.ext (by show (a.nat + 0 % pN) % pN = a.nat; rw [Nat.zero_mod, Nat.add_zero, Nat.mod_eq_of_lt a.nat_lt])
  add_comm := fun a b => V1.ext (by show (a.nat + b.nat) % pN = (b.nat + a.nat) % pN; rw [Nat.add_comm])
  add_assoc := fun a b c => V1.ext (by show ((a.nat + b.nat) % pN + c.nat) % pN = (a.nat + (b.nat + c.nat) % pN) % pN; rw [Nat.mod_add_mod, Nat.add_mod_mod, Nat.add_assoc])
  mul_assoc := fun a b c => V1.ext (by show ((a.nat * b.nat) % pN * c.nat) % pN = (a.nat * ((b.nat * c.nat) % pN)) % pN; rw [Nat.mod_mul_mod, Nat.mul_mod_mod, Nat.mul_assoc])
  mul_comm := fun a b => V1.ext (by show (a.nat * b.nat) % pN = (b.nat * a.nat) % pN; rw [Nat.mul_comm])
  mul_one := fun a => V1.ext (by show (a.nat * (1 % pN)) % pN = a.nat; rw [V1.one_mod, Nat.mul_one, Nat.mod_eq_of_lt a.nat_lt])
  dist := fun a b c => V1.ext (by
    show (a.nat * ((b.nat + c.nat) % pN)) % pN = ((a.nat * b.nat) % pN + (a.nat * c.nat) % pN) % pN
    rw [Nat.mul_mod_mod, ← Nat.add_mod, Nat.mul_add])
  neg_add := fun a => V1.ext (by
    show ((pN - a.nat) % pN + a.nat) % pN = 0 % pN
    rw [Nat.mod_add_mod, Nat.sub_add_cancel (Nat.le_of_lt a.nat_lt), Nat.mod_self, Nat.zero_mod])
  sub_eq := fun a b => V1.ext (by
    show (a.nat + (pN - b.nat)) % pN = (a.nat + (pN - b.nat) % pN) % pN
    rw [Nat.add_mod_mod])

theorem V1.nat_add (a b : V1) : (a + b).nat = (a.nat + b.nat) % pN := rfl
theorem V1.nat_mul (a b : V1) : (a * b).nat = (a.nat * b.nat) % pN := rfl
theorem V1.nat_zero : (0 : V1).nat = 0 := Nat.zero_mod _
theorem V1.nat_one : (1 : V1).nat = 1 := V1.one_mod
theorem V1.nat_pow (a : V1) : ∀ n : Nat, (a ^ n).nat = a.nat ^ n % pN
  | 0 => rfl
  | n + 1 => by rw [pow_succ', V1.nat_mul, V1.nat_pow a n, Nat.mod_mul_mod, Nat.pow_succ]
theorem V1.ne_zero {a : V1} (h : a ≠ 0) : a.nat ≠ 0 := fun e => h (V1.ext (by rw [e, V1.nat_zero]))

theorem V1.fermat {a : V1} (h : a ≠ 0) : a ^ (pN - 1) = 1 := V1.ext (by
  rw [V1.nat_pow, V1.nat_one]
  exact Go.Proofs.Ytfkmooldindfjaa.fermat prime_p (not_dvd a.nat_lt (V1.ne_zero h)))

theorem V1.inv_eq (a : V1) : V1.inv a = a ^ (pN - 2) := V1.ext (by
  show mpow 381 a.nat (pN - 2) pN % pN = _
  rw [mpow_eq pN 381 _ _ (by decide +kernel), V1.nat_pow, Nat.mod_mod])

instance : Fld V1 where
  inv := V1.inv
  mul_inv := fun a h => by
    rw [V1.inv_eq]
    have := V1.fermat h
    rw [show pN - 1 = (pN - 2) + 1 by have := two_lt; omega, pow_succ'] at this
    rw [CR.mul_comm]
    exact this
  one_ne := fun e => by
    have := congrArg V1.nat e
    rw [V1.nat_one, V1.nat_zero] at this
    omega

/-- A number that is below the modulus. -/
def Fp.ok (a : Fp) : Prop := a.nat < pN
def Fp.v (a : Fp) : V1 := V1.of a.nat

theorem Fp.v_nat {a : Fp} (h : a.ok) : a.v.nat = a.nat := Nat.mod_eq_of_lt h
theorem Fp.v_inj {a b : Fp} (ha : a.ok) (hb : b.ok) (h : a.v = b.v) : a = b := Fp.nat_inj (by rw [← Fp.v_nat ha, ← Fp.v_nat hb, h])
theorem fpEq_v {a b : Fp} (ha : a.ok) (hb : b.ok) : fpEq a b = true ↔ a.v = b.v := ⟨fun h => by rw [(fpEq_iff a b).1 h], fun h => (fpEq_iff a b).2 (Fp.v_inj ha hb h)⟩

theorem add_ok' {a b : Fp} (ha : a.ok) (hb : b.ok) : (addF a b).ok := addF_lt ha hb
theorem sub_ok' {a b : Fp} (ha : a.ok) (hb : b.ok) : (subF a b).ok := subF_lt ha hb
theorem mul_ok' {a b : Fp} (ha : a.ok) : (mulF a b).ok := mulF_lt ha
theorem zero_ok' : zeroFp.ok := by unfold Fp.ok; rw [zero_nat]; exact pN_pos
theorem one_ok' : oneFp.ok := by unfold Fp.ok; rw [one_nat]; exact one_lt_p
theorem neg_ok' {a : Fp} (ha : a.ok) : (negF a).ok := sub_ok' zero_ok' ha
theorem pow_ok' {a : Fp} (ha : a.ok) (e : List UInt64) : (powF a e).ok := by unfold Fp.ok; rw [powF_nat ha]; exact Nat.mod_lt _ pN_pos

theorem v_zero : zeroFp.v = 0 := V1.ext (by rw [Fp.v_nat zero_ok', zero_nat, V1.nat_zero])
theorem v_one : oneFp.v = 1 := V1.ext (by rw [Fp.v_nat one_ok', one_nat, V1.nat_one])
theorem v_add {a b : Fp} (ha : a.ok) (hb : b.ok) : (addF a b).v = a.v + b.v := V1.ext (by
  rw [Fp.v_nat (add_ok' ha hb), addF_nat ha hb, V1.nat_add, Fp.v_nat ha, Fp.v_nat hb])
theorem v_mul {a b : Fp} (ha : a.ok) (hb : b.ok) : (mulF a b).v = a.v * b.v := V1.ext (by
  rw [Fp.v_nat (mul_ok' ha), mulF_nat ha, V1.nat_mul, Fp.v_nat ha, Fp.v_nat hb])
theorem v_sub {a b : Fp} (ha : a.ok) (hb : b.ok) : (subF a b).v = a.v - b.v := V1.ext (by
  rw [Fp.v_nat (sub_ok' ha hb), subF_nat ha hb]
  show _ = (a.v.nat + (pN - b.v.nat)) % pN
  rw [Fp.v_nat ha, Fp.v_nat hb]
  congr 1
  have : b.nat < pN := hb
  omega)
theorem v_neg {a : Fp} (ha : a.ok) : (negF a).v = - a.v := by
  rw [show negF a = subF zeroFp a from rfl, v_sub zero_ok' ha, v_zero]
  grind
theorem v_pow {a : Fp} (ha : a.ok) (e : List UInt64) : (powF a e).v = a.v ^ eLow e (64 * e.length) := V1.ext (by
  rw [Fp.v_nat (pow_ok' ha e), powF_nat ha, V1.nat_pow, Fp.v_nat ha])

theorem v_eq_zero {a : Fp} (ha : a.ok) : a.v = 0 ↔ a = zeroFp := ⟨fun h => Fp.v_inj ha zero_ok' (by rw [h, v_zero]), fun h => by rw [h, v_zero]⟩

end Go.Proofs.Ytfkmooldindfjaa
