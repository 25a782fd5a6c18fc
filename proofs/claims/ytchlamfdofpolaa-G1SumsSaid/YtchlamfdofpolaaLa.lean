/- Plain algebra, part a: commutative rings and fields. -/
import Init
set_option linter.unusedSimpArgs false
set_option linter.unusedVariables false
namespace Go.Proofs.Ytchlamfdofpolaa

abbrev clsOf {C : Type → Type} {A : Type} (_ : C A) : Type → Type := C
/-- The library's own commutative rings. -/
abbrev GR : Type → Type := clsOf Dyadic.instCommRing

class CR (R : Type) extends Add R, Mul R, Neg R, Sub R where
  z : R
  o : R
  add_zero : ∀ a : R, a + z = a
  add_comm : ∀ a b : R, a + b = b + a
  add_assoc : ∀ a b c : R, a + b + c = a + (b + c)
  mul_assoc : ∀ a b c : R, a * b * c = a * (b * c)
  mul_comm : ∀ a b : R, a * b = b * a
  mul_one : ∀ a : R, a * o = a
  dist : ∀ a b c : R, a * (b + c) = a * b + a * c
  neg_add : ∀ a : R, -a + a = z
  sub_eq : ∀ a b : R, a - b = a + -b

namespace CR
variable {R : Type} [CR R]

def nat : Nat → R
  | 0 => z
  | 1 => o
  | n + 2 => nat (n + 1) + o
def int : Int → R
  | .ofNat n => nat n
  | .negSucc n => - nat (n + 1)
def pow (a : R) : Nat → R
  | 0 => o
  | n + 1 => pow a n * a

theorem nat_succ : ∀ n : Nat, (nat (n + 1) : R) = nat n + o
  | 0 => by show o = z + o; rw [add_comm, add_zero]
  | n + 1 => rfl
theorem right_dist (a b c : R) : (a + b) * c = a * c + b * c := by rw [mul_comm, dist, mul_comm c, mul_comm c]
theorem cancel {a b c : R} (h : a + c = b + c) : a = b := by
  have h2 : (a + c) + -c = (b + c) + -c := by rw [h]
  rw [add_assoc, add_assoc, add_comm c, neg_add, add_zero, add_zero] at h2
  exact h2
theorem zero_add (a : R) : z + a = a := by rw [add_comm, add_zero]
theorem zero_mul (a : R) : z * a = z := by
  apply cancel (c := z * a)
  rw [← right_dist, add_zero, zero_add]
theorem mul_zero (a : R) : a * z = z := by rw [mul_comm, zero_mul]
theorem neg_unique {a b : R} (h : a + b = z) : -b = a := cancel (c := b) (by rw [neg_add, h])
theorem neg_neg (a : R) : - -a = a := neg_unique (by rw [add_comm, neg_add])
theorem neg_mul (a b : R) : -a * b = -(a * b) := (neg_unique (by rw [← right_dist, neg_add, zero_mul])).symm
theorem neg_zero : -(z : R) = z := neg_unique (by rw [add_zero])
theorem int_neg : ∀ i : Int, (int (-i) : R) = - int i
  | .ofNat 0 => by show z = -z; rw [neg_zero]
  | .ofNat (n + 1) => rfl
  | .negSucc n => by show nat (n + 1) = - - nat (n + 1); rw [neg_neg]
end CR

instance {R : Type} [CR R] (n : Nat) : OfNat R n := ⟨CR.nat n⟩
instance {R : Type} [CR R] : NatCast R := ⟨CR.nat⟩
instance {R : Type} [CR R] : IntCast R := ⟨CR.int⟩
instance {R : Type} [CR R] : HPow R Nat R := ⟨CR.pow⟩
instance {R : Type} [CR R] : SMul Nat R := ⟨fun n a => CR.nat n * a⟩
instance {R : Type} [CR R] : SMul Int R := ⟨fun n a => CR.int n * a⟩

instance grOf {R : Type} [CR R] : GR R where
  add_zero := fun a => CR.add_zero a
  add_comm := CR.add_comm
  add_assoc := CR.add_assoc
  mul_assoc := CR.mul_assoc
  mul_one := fun a => CR.mul_one a
  one_mul := fun a => by show CR.nat 1 * a = a; rw [CR.mul_comm]; exact CR.mul_one a
  left_distrib := CR.dist
  right_distrib := CR.right_dist
  zero_mul := CR.zero_mul
  mul_zero := CR.mul_zero
  pow_zero := fun _ => rfl
  pow_succ := fun _ _ => rfl
  ofNat_succ := fun n => CR.nat_succ n
  neg_add_cancel := CR.neg_add
  sub_eq_add_neg := CR.sub_eq
  neg_zsmul := fun i a => by show CR.int (-i) * a = -(CR.int i * a); rw [CR.int_neg, CR.neg_mul]
  intCast_neg := CR.int_neg
  mul_comm := CR.mul_comm

section
variable {R : Type} [CR R]
theorem pow_zero' (a : R) : a ^ 0 = 1 := rfl
theorem pow_succ' (a : R) (n : Nat) : a ^ (n + 1) = a ^ n * a := rfl
theorem pow_one' (a : R) : a ^ 1 = a := by rw [pow_succ', pow_zero']; grind
theorem one_pow' : ∀ n : Nat, (1 : R) ^ n = 1
  | 0 => rfl
  | n + 1 => by rw [pow_succ', one_pow' n]; grind
theorem pow_add' (a : R) (m : Nat) : ∀ n : Nat, a ^ (m + n) = a ^ m * a ^ n
  | 0 => by rw [Nat.add_zero, pow_zero']; grind
  | n + 1 => by rw [← Nat.add_assoc, pow_succ', pow_add' a m n, pow_succ']; grind
theorem mul_pow' (a b : R) : ∀ n : Nat, (a * b) ^ n = a ^ n * b ^ n
  | 0 => by simp only [pow_zero']; grind
  | n + 1 => by simp only [pow_succ', mul_pow' a b n]; grind
theorem pow_mul' (a : R) (m : Nat) : ∀ n : Nat, a ^ (m * n) = (a ^ m) ^ n
  | 0 => by rw [Nat.mul_zero, pow_zero', pow_zero']
  | n + 1 => by rw [Nat.mul_succ, pow_add', pow_mul' a m n, pow_succ']
theorem zero_pow' : ∀ n : Nat, 0 < n → (0 : R) ^ n = 0
  | n + 1, _ => by rw [pow_succ']; grind
end

class Fld (K : Type) extends CR K where
  inv : K → K
  mul_inv : ∀ a : K, a ≠ 0 → a * inv a = 1
  one_ne : (1 : K) ≠ 0

section
variable {K : Type} [Fld K]
theorem mul_inv' {a : K} (h : a ≠ 0) : a * Fld.inv a = 1 := Fld.mul_inv a h
theorem one_ne' : (1 : K) ≠ 0 := Fld.one_ne
theorem mul_eq_zero' {a b : K} (h : a * b = 0) : a = 0 ∨ b = 0 := by
  by_cases ha : a = 0
  · exact .inl ha
  · refine .inr ?_
    have := mul_inv' ha
    grind
theorem mul_ne' {a b : K} (ha : a ≠ 0) (hb : b ≠ 0) : a * b ≠ 0 := fun h => (mul_eq_zero' h).elim ha hb
theorem mul_cancel' {a b c : K} (hc : c ≠ 0) (h : a * c = b * c) : a = b := by
  have := mul_inv' hc
  grind
theorem inv_ne' {a : K} (h : a ≠ 0) : Fld.inv a ≠ 0 := fun e => by
  have := mul_inv' h
  have := one_ne' (K := K)
  grind
theorem inv_unique' {a b : K} (h : a * b = 1) : b = Fld.inv a := by
  have ha : a ≠ 0 := fun e => by
    have := one_ne' (K := K)
    grind
  have := mul_inv' ha
  grind
theorem pow_ne' {a : K} (h : a ≠ 0) : ∀ n : Nat, a ^ n ≠ 0
  | 0 => one_ne'
  | n + 1 => mul_ne' (pow_ne' h n) h
theorem sq_eq' {a b : K} (h : a * a = b * b) : a = b ∨ a = -b := by
  have : (a - b) * (a + b) = 0 := by grind
  rcases mul_eq_zero' this with h1 | h1
  · exact .inl (by grind)
  · exact .inr (by grind)
end

end Go.Proofs.Ytchlamfdofpolaa
