/- Plain algebra, part c: the power by the characteristic; the tower of fields. -/
import Derived.Test.YtchlamfdofpolaaLb
import Derived.Test.YtchlamfdofpolaaMB
set_option linter.unusedSimpArgs false
set_option linter.unusedVariables false
set_option linter.unusedSectionVars false
namespace Go.Proofs.Ytchlamfdofpolaa

section
variable {R : Type} [CR R]
theorem CR.nat_add (m : Nat) : ∀ n : Nat, (CR.nat (m + n) : R) = CR.nat m + CR.nat n
  | 0 => by show CR.nat m = CR.nat m + CR.z; rw [CR.add_zero]
  | n + 1 => by
    rw [← Nat.add_assoc, CR.nat_succ, CR.nat_add m n, CR.nat_succ, CR.add_assoc]
theorem CR.nat_mul (m : Nat) : ∀ n : Nat, (CR.nat (m * n) : R) = CR.nat m * CR.nat n
  | 0 => by
    show CR.z = CR.nat m * CR.z
    rw [CR.mul_zero]
  | n + 1 => by
    rw [Nat.mul_succ, CR.nat_add, CR.nat_mul m n, CR.nat_succ, CR.dist, CR.mul_one]

def bsR (a : R) (n : Nat) : Nat → R
  | 0 => 0
  | m + 1 => bsR a n m + CR.nat (ch n m) * a ^ m
theorem bsR_step (a : R) (n : Nat) : ∀ m : Nat, bsR a (n + 1) (m + 1) = bsR a n (m + 1) + a * bsR a n m
  | 0 => by
    simp only [bsR, ch_zero]
    grind
  | m + 1 => by
    have h := bsR_step a n m
    show bsR a (n + 1) (m + 1) + CR.nat (ch (n + 1) (m + 1)) * a ^ (m + 1) = bsR a n (m + 1) + CR.nat (ch n (m + 1)) * a ^ (m + 1) + a * (bsR a n m + CR.nat (ch n m) * a ^ m)
    rw [h, show ch (n + 1) (m + 1) = ch n m + ch n (m + 1) from rfl, CR.nat_add, pow_succ']
    generalize (CR.nat (ch n m) : R) = c
    generalize (CR.nat (ch n (m + 1)) : R) = d
    generalize a ^ m = e
    grind
theorem binomR (a : R) : ∀ n : Nat, (a + 1) ^ n = bsR a n (n + 1)
  | 0 => by
    show (1 : R) = 0 + CR.nat 1 * a ^ 0
    rw [pow_zero']
    show (1 : R) = 0 + 1 * 1
    grind
  | n + 1 => by
    rw [bsR_step a n (n + 1), show bsR a n (n + 1 + 1) = bsR a n (n + 1) + CR.nat (ch n (n + 1)) * a ^ (n + 1) from rfl, ch_big (Nat.lt_succ_self n), ← binomR a n, pow_succ']
    show _ = (a + 1) ^ n + 0 * a ^ (n + 1) + a * (a + 1) ^ n
    grind
theorem bsR_prime {p : Nat} (h : IsPrime p) (h0 : (CR.nat p : R) = 0) (a : R) : ∀ m : Nat, m < p → bsR a p (m + 1) = 1
  | 0, _ => by
    simp only [bsR, ch_zero]
    show (0 : R) + 1 * a ^ 0 = 1
    rw [pow_zero']
    grind
  | m + 1, hm => by
    have ih := bsR_prime h h0 a m (by omega)
    obtain ⟨c, hc⟩ := ch_prime h (Nat.succ_pos m) hm
    show bsR a p (m + 1) + CR.nat (ch p (m + 1)) * a ^ (m + 1) = 1
    rw [hc, CR.nat_mul, h0, ih]
    grind
theorem dream1 {p : Nat} (h : IsPrime p) (h0 : (CR.nat p : R) = 0) (a : R) : (a + 1) ^ p = a ^ p + 1 := by
  have hp := h.1
  obtain ⟨n, rfl⟩ : ∃ n, p = n + 1 := ⟨p - 1, by omega⟩
  rw [binomR a (n + 1), show bsR a (n + 1) (n + 1 + 1) = bsR a (n + 1) (n + 1) + CR.nat (ch (n + 1) (n + 1)) * a ^ (n + 1) from rfl, ch_self, bsR_prime h h0 a n (by omega)]
  show (1 : R) + 1 * a ^ (n + 1) = _
  grind
end

section
variable {K : Type} [Fld K]
theorem dream {p : Nat} (h : IsPrime p) (h0 : (CR.nat p : K) = 0) (a b : K) : (a + b) ^ p = a ^ p + b ^ p := by
  by_cases hb : b = 0
  · rw [hb, zero_pow' p (by have := h.1; omega)]
    have e : a + 0 = a := by grind
    rw [e]
    grind
  · have hi := mul_inv' hb
    have h1 := dream1 h h0 (a * Fld.inv b)
    have e1 : (a + b) = (a * Fld.inv b + 1) * b := by grind
    have e2 : a = (a * Fld.inv b) * b := by grind
    have e3 : a ^ p = (a * Fld.inv b) ^ p * b ^ p := by rw [← mul_pow', ← e2]
    rw [e1, mul_pow', h1, e3]
    grind
end

theorem Qd.nat_eq {K : Type} [CR K] [QP K] : ∀ n : Nat, (CR.nat n : Qd K) = Qd.of (CR.nat n)
  | 0 => rfl
  | n + 1 => by
    rw [CR.nat_succ, Qd.nat_eq n, CR.nat_succ]
    exact Qd.ext' rfl (show (0 : K) + 0 = 0 by grind)
theorem Cb.nat_eq {K : Type} [CR K] [CP K] : ∀ n : Nat, (CR.nat n : Cb K) = Cb.of (CR.nat n)
  | 0 => rfl
  | n + 1 => by
    rw [CR.nat_succ, Cb.nat_eq n, CR.nat_succ]
    exact Cb.ext' rfl (show (0 : K) + 0 = 0 by grind) (show (0 : K) + 0 = 0 by grind)

/-! the tower -/
theorem V1.nat_nat : ∀ n : Nat, V1.nat (CR.nat n) = n % pN
  | 0 => V1.nat_zero
  | n + 1 => by
    rw [CR.nat_succ]
    show V1.nat (CR.nat n + 1) = _
    rw [V1.nat_add, V1.nat_nat n, V1.nat_one, Nat.mod_add_mod]
theorem V1.char : (CR.nat pN : V1) = 0 := V1.ext (by rw [V1.nat_nat, Nat.mod_self, V1.nat_zero])
theorem V1.two_nat : V1.nat (2 : V1) = 2 := by
  show V1.nat (CR.nat 2) = 2
  rw [V1.nat_nat]
  exact Nat.mod_eq_of_lt two_lt

instance : QF V1 where
  nr := -1
  no := fun x h => by
    have h1 : (x * x).chi = x.chi * x.chi := chi_mul x x
    rw [h, chi_neg_one] at h1
    have hx : x ≠ 0 := fun e => by
      rw [e] at h
      have := one_ne' (K := V1)
      grind
    rw [chi_sq hx] at h1
    exact one_ne_neg h1.symm
abbrev V2 : Type := Qd V1
theorem V1.nr_eq : (QP.nr : V1) = -1 := rfl
def xi : V2 := ⟨1, 1⟩
theorem xi_norm : xi.norm = 2 := by
  unfold Qd.norm xi
  rw [V1.nr_eq]
  show (1 : V1) * 1 - -1 * (1 * 1) = 2
  grind
theorem two_ne : (2 : V1) ≠ 0 := fun h => by
  have h1 := congrArg V1.nat h
  rw [V1.two_nat, V1.nat_zero] at h1
  exact absurd h1 (by decide)
theorem third : (pN - 1) / 3 * 3 = pN - 1 := by decide +kernel
theorem two_third : ((2 : V1) ^ ((pN - 1) / 3)) ≠ 1 := fun h => by
  have h1 := congrArg V1.nat h
  rw [V1.nat_pow, V1.two_nat, V1.nat_one, ← mpow_eq pN 381 2 _ (by decide +kernel)] at h1
  exact absurd h1 (by decide +kernel)
theorem two_half : (2 : V1).chi ≠ 1 := fun h => by
  have h1 := congrArg V1.nat h
  unfold V1.chi at h1
  rw [V1.nat_pow, V1.two_nat, V1.nat_one, ← mpow_eq pN 381 2 _ (by decide +kernel)] at h1
  exact absurd h1 (by decide +kernel)

theorem CR_zero {R : Type} [CR R] (a : R) : a * 0 = 0 := CR.mul_zero a
instance : CF V2 where
  cr := xi
  no := fun x h => by
    have h1 : x.norm * x.norm * x.norm = 2 := by rw [← Qd.norm_mul, ← Qd.norm_mul, h, xi_norm]
    have hx : x.norm ≠ 0 := fun e => by
      exact two_ne (by rw [← h1, e, CR_zero])
    apply two_third
    have e : (2 : V1) = x.norm ^ 3 := by rw [← h1]; grind
    rw [e, ← pow_mul', Nat.mul_comm, third]
    exact V1.fermat hx
abbrev V6 : Type := Cb V2
theorem V2.cr_eq : (CP.cr : V2) = xi := rfl
def vv : V6 := ⟨0, 1, 0⟩
theorem vv_norm : vv.norm = xi := by
  unfold Cb.norm vv
  rw [V2.cr_eq]
  show (0 : V2) * (0 * 0 - xi * (1 * 0)) + xi * (0 * (xi * (0 * 0) - 0 * 1) + 1 * (1 * 1 - 0 * 0)) = xi
  generalize xi = x
  grind
instance : QF V6 where
  nr := vv
  no := fun x h => by
    have h1 : x.norm * x.norm = xi := by rw [← Cb.norm_mul, h, vv_norm]
    have h2 : x.norm.norm * x.norm.norm = 2 := by rw [← Qd.norm_mul, h1, xi_norm]
    have hx : x.norm.norm ≠ 0 := fun e => by
      exact two_ne (by rw [← h2, e, CR_zero])
    apply two_half
    rw [← h2, chi_mul, chi_sq hx]
abbrev V12 : Type := Qd V6

theorem V2.char : (CR.nat pN : V2) = 0 := by rw [Qd.nat_eq, V1.char]; rfl
theorem V6.char : (CR.nat pN : V6) = 0 := by rw [Cb.nat_eq, V2.char]; rfl
theorem V12.char : (CR.nat pN : V12) = 0 := by rw [Qd.nat_eq, V6.char]; rfl

/-! the power by P in V2 -/
theorem V1.pow_p (a : V1) : a ^ pN = a := by
  by_cases h : a = 0
  · rw [h]; exact zero_pow' _ pN_pos
  · have e : pN = (pN - 1) + 1 := by have := pN_pos; omega
    rw [e, pow_succ', V1.fermat h]
    grind
theorem Qd.of_pow {K : Type} [CR K] [QP K] (a : K) : ∀ n : Nat, (Qd.of a) ^ n = Qd.of (a ^ n)
  | 0 => rfl
  | n + 1 => by rw [pow_succ', Qd.of_pow a n, pow_succ', Qd.of_mul]
def uu : V2 := ⟨0, 1⟩
theorem uu_sq : uu * uu = -1 := Qd.ext' (by rw [Qd.mul_a, V1.nr_eq]; show (0 : V1) * 0 + -1 * (1 * 1) = -1; grind) (by rw [Qd.mul_b]; show (0 : V1) * 1 + 1 * 0 = -0; grind)
theorem neg_one_pow {R : Type} [CR R] : ∀ k : Nat, (-1 : R) ^ (2 * k + 1) = -1
  | 0 => by show (-1 : R) ^ 1 = -1; exact pow_one' _
  | k + 1 => by
    rw [show 2 * (k + 1) + 1 = (2 * k + 1) + 1 + 1 by omega, pow_succ', pow_succ', neg_one_pow k]
    grind
theorem p_four : pN = 2 * (2 * ((pN - 3) / 4) + 1) + 1 := by decide +kernel
theorem uu_pow : uu ^ pN = -uu := by
  have e : uu ^ pN = (uu ^ 2) ^ (2 * ((pN - 3) / 4) + 1) * uu := by
    rw [← pow_mul', ← pow_succ', ← p_four]
  have e2 : uu ^ 2 = -1 := by
    rw [show (2 : Nat) = 1 + 1 from rfl, pow_succ', pow_one', uu_sq]
  rw [e, e2, neg_one_pow]
  grind
theorem V2.split (x : V2) : x = Qd.of x.a + Qd.of x.b * uu := Qd.ext' (by rw [Qd.add_a, Qd.mul_a]; show x.a = x.a + (x.b * 0 + QP.nr * (0 * 1)); grind) (by rw [Qd.add_b, Qd.mul_b]; show x.b = 0 + (x.b * 1 + 0 * 0); grind)
theorem V2.frob (x : V2) : x ^ pN = x.conj := by
  have h : x ^ pN = Qd.of x.a + Qd.of x.b * -uu := by
    conv => lhs; rw [V2.split x]
    rw [dream prime_p V2.char, mul_pow', uu_pow, Qd.of_pow, Qd.of_pow, V1.pow_p, V1.pow_p]
  rw [h]
  exact Qd.ext' (by rw [Qd.add_a, Qd.mul_a]; show x.a + (x.b * -0 + QP.nr * (0 * -1)) = x.a; grind) (by rw [Qd.add_b, Qd.mul_b]; show 0 + (x.b * -1 + 0 * -0) = -x.b; grind)

end Go.Proofs.Ytchlamfdofpolaa
