/- The base field's functions, part b: products of limbs. -/
import Derived.Test.YtfkmooldindfjaaFa
set_option linter.unusedSimpArgs false
set_option linter.unusedVariables false
namespace Go.Proofs.Ytfkmooldindfjaa
open Go.RowKit

def mulHi (x y : UInt64) : UInt64 :=
  let t := shrU x 32 * (y &&& 4294967295) + shrU ((x &&& 4294967295) * (y &&& 4294967295)) 32
  shrU x 32 * shrU y 32 + shrU t 32 + shrU ((t &&& 4294967295) + (x &&& 4294967295) * shrU y 32) 32

theorem mul64_ok : CallOk Try.prog 67 (K2 kU64.arg kU64.arg (kU64.rs2 kU64).res fun x y => (mulHi x y, x * y)) :=
  P2 E0_ok Try.func67 (bodied Try.func67 (by kernel_rfl) (by kernel_rfl)) 100 kU64 kU64 (kU64.rs2 kU64) (fun x y => (mulHi x y, x * y))
    (T := fun x y => .leaf (some (mulHi x y, x * y))) (by intro x y; kernel_rfl) (fun _ _ => rfl)

theorem shrU32_nat (x : UInt64) : (shrU x 32).toNat = x.toNat / 4294967296 := by
  have := x.toNat_lt
  unfold shrU
  rw [show (min (Int.toNat 32) 64) = 32 from rfl, UInt64.toNat_ofNat']
  omega

theorem and32_nat (x : UInt64) : (x &&& 4294967295).toNat = x.toNat % 4294967296 := by
  rw [UInt64.toNat_and]
  exact Nat.and_two_pow_sub_one_eq_mod x.toNat 32

theorem mulHi_nat (x y : UInt64) : (mulHi x y).toNat = x.toNat * y.toNat / 18446744073709551616 := by
  have hx := x.toNat_lt
  have hy := y.toNat_lt
  have h1 : x.toNat = 4294967296 * (x.toNat / 4294967296) + x.toNat % 4294967296 := by omega
  have h2 : y.toNat = 4294967296 * (y.toNat / 4294967296) + y.toNat % 4294967296 := by omega
  have b0 : x.toNat % 4294967296 ≤ 4294967295 := by omega
  have b1 : x.toNat / 4294967296 ≤ 4294967295 := by omega
  have c0 : y.toNat % 4294967296 ≤ 4294967295 := by omega
  have c1 : y.toNat / 4294967296 ≤ 4294967295 := by omega
  unfold mulHi
  simp only [UInt64.toNat_add, UInt64.toNat_mul, shrU32_nat, and32_nat]
  generalize hx0 : x.toNat % 4294967296 = x0 at *
  generalize hx1 : x.toNat / 4294967296 = x1 at *
  generalize hy0 : y.toNat % 4294967296 = y0 at *
  generalize hy1 : y.toNat / 4294967296 = y1 at *
  have p00 : x0 * y0 ≤ 4294967295 * 4294967295 := Nat.mul_le_mul b0 c0
  have p01 : x0 * y1 ≤ 4294967295 * 4294967295 := Nat.mul_le_mul b0 c1
  have p10 : x1 * y0 ≤ 4294967295 * 4294967295 := Nat.mul_le_mul b1 c0
  have p11 : x1 * y1 ≤ 4294967295 * 4294967295 := Nat.mul_le_mul b1 c1
  have e : x.toNat * y.toNat = 18446744073709551616 * (x1 * y1) + 4294967296 * (x1 * y0) + 4294967296 * (x0 * y1) + x0 * y0 := by
    rw [h1, h2]
    simp only [Nat.mul_add, Nat.add_mul]
    have q1 : 4294967296 * x1 * (4294967296 * y1) = 18446744073709551616 * (x1 * y1) := by
      rw [Nat.mul_mul_mul_comm]
    have q2 : 4294967296 * x1 * y0 = 4294967296 * (x1 * y0) := Nat.mul_assoc _ _ _
    have q3 : x0 * (4294967296 * y1) = 4294967296 * (x0 * y1) := by rw [Nat.mul_left_comm]
    omega
  rw [e]
  generalize x0 * y0 = p at *
  generalize x0 * y1 = q at *
  generalize x1 * y0 = r at *
  generalize x1 * y1 = s at *
  omega

/-- A product, a limb and a carry: the low limb. -/
def macL (x y t c : UInt64) : UInt64 := addS (addS (x * y) t false) c false
def macH (x y t c : UInt64) : UInt64 := mulHi x y + b2u (addC (x * y) t false) + b2u (addC (addS (x * y) t false) c false)

theorem mac_nat (x y t c : UInt64) : (macH x y t c).toNat * 18446744073709551616 + (macL x y t c).toNat = x.toNat * y.toNat + t.toNat + c.toNat := by
  have hx := x.toNat_lt
  have hy := y.toNat_lt
  have ht := t.toNat_lt
  have hc := c.toNat_lt
  have hp : x.toNat * y.toNat ≤ 18446744073709551615 * 18446744073709551615 := Nat.mul_le_mul (by omega) (by omega)
  unfold macH macL
  simp only [UInt64.toNat_add, b2u_nat, addS_nat, addC_nat, mulHi_nat, UInt64.toNat_mul, Bool.toNat_false]
  generalize x.toNat * y.toNat = p at *
  omega

end Go.Proofs.Ytfkmooldindfjaa
