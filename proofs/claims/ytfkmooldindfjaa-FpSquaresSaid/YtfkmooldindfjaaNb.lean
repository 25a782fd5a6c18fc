/- Plain numbers, part b: that the modulus is prime. -/
import Derived.Test.YtfkmooldindfjaaNa
import Derived.Test.YtfkmooldindfjaaMa
set_option linter.unusedSimpArgs false
set_option linter.unusedVariables false
namespace Go.Proofs.Ytfkmooldindfjaa

/-- A power modulo n. -/
def mpow : Nat → Nat → Nat → Nat → Nat
  | 0, _, _, n => 1 % n
  | k + 1, a, e, n => match Nat.beq e 0 with
    | true => 1 % n
    | false => match Nat.beq (e % 2) 1 with
      | true => a * mpow k (a * a % n) (e / 2) n % n
      | false => mpow k (a * a % n) (e / 2) n

theorem mpow_eq (n : Nat) : ∀ (k a e : Nat), e < 2 ^ k → mpow k a e n = a ^ e % n
  | 0, a, e, h => by
    obtain rfl : e = 0 := by simpa using h
    rfl
  | k + 1, a, e, h => by
    unfold mpow
    cases h0 : Nat.beq e 0 with
    | true =>
      have := Nat.eq_of_beq_eq_true h0
      subst this
      rfl
    | false =>
      have hlt : e / 2 < 2 ^ k := by rw [Nat.pow_succ] at h; omega
      have ih := mpow_eq n k (a * a % n) (e / 2) hlt
      have e1 : (a * a % n) ^ (e / 2) % n = a ^ (2 * (e / 2)) % n := by rw [← Nat.pow_mod, ← Nat.pow_two, ← Nat.pow_mul]
      cases h1 : Nat.beq (e % 2) 1 with
      | true =>
        have h1 := Nat.eq_of_beq_eq_true h1
        simp only []
        rw [ih, e1, Nat.mul_mod_mod]
        refine congrArg (fun z => z % n) ?_
        rw [show a ^ e = a ^ (2 * (e / 2) + 1) by congr 1; omega, Nat.pow_succ, Nat.mul_comm]
      | false =>
        have h1 := Nat.ne_of_beq_eq_false h1
        simp only []
        rw [ih, e1]
        refine congrArg (fun z => a ^ z % n) ?_
        omega

/-- Pocklington's test, to be computed. -/
theorem pock {n q r a k : Nat} (K : Nat) (hn : n = q * r + 1) (hq : IsPrime q) (hr : 0 < r) (hK : ∀ k, k < K → ¬ (q * (k + 1) + 1) ∣ n) (hqq : n < (q * (K + 1) + 1) * (q * (K + 1) + 1)) (hk : q * r < 2 ^ k) (h1 : mpow k a (q * r) n = 1) (h2 : Nat.gcd (mpow k a r n + (n - 1)) n = 1) : IsPrime n := by
  have hrq : r < 2 ^ k := Nat.lt_of_le_of_lt (Nat.le_mul_of_pos_left r (by have := hq.1; omega)) hk
  rw [mpow_eq n k a _ hk] at h1
  rw [mpow_eq n k a _ hrq] at h2
  exact pocklington hn hq hr hK hqq h1 h2

/-- No divisors up to the root. -/
def noDiv (n : Nat) : Nat → Nat → Bool
  | 0, _ => true
  | k + 1, d => match Nat.beq (n % d) 0 with
    | true => false
    | false => noDiv n k (d + 1)

theorem noDiv_spec {n : Nat} : ∀ {k d : Nat}, noDiv n k d = true → ∀ x, d ≤ x → x < d + k → ¬ x ∣ n
  | 0, d, _, x, h1, h2 => by omega
  | k + 1, d, h, x, h1, h2 => by
    simp only [noDiv] at h
    split at h
    · cases h
    · rename_i hb
      have hb := Nat.ne_of_beq_eq_false hb
      rcases Nat.lt_or_ge d x with hlt | hge
      · exact noDiv_spec h x hlt (by omega)
      · obtain rfl : x = d := by omega
        exact fun hd => hb (Nat.mod_eq_zero_of_dvd hd)

theorem prime_of_noDiv {n k : Nat} (hn : 1 < n) (h : noDiv n k 2 = true) (hk : n < (k + 2) * (k + 2)) : IsPrime n := by
  refine ⟨hn, fun d hd => ?_⟩
  obtain ⟨y, hy⟩ := hd
  have hd0 : d ≠ 0 := by rintro rfl; omega
  have hy0 : y ≠ 0 := by rintro rfl; omega
  by_cases h1 : d = 1
  · exact .inl h1
  · right
    by_cases h2 : y = 1
    · subst h2; omega
    · have k1 : k + 2 ≤ d := by
        rcases Nat.lt_or_ge d (2 + k) with hl | hl
        · exact absurd ⟨y, hy⟩ (noDiv_spec h d (by omega) hl)
        · omega
      have k2 : k + 2 ≤ y := by
        rcases Nat.lt_or_ge y (2 + k) with hl | hl
        · exact absurd ⟨d, by rw [hy, Nat.mul_comm]⟩ (noDiv_spec h y (by omega) hl)
        · omega
      have := Nat.mul_le_mul k1 k2
      omega

theorem prime_u : IsPrime 421987 := prime_of_noDiv (k := 700) (by decide) (by decide +kernel) (by decide)
theorem prime_t : IsPrime 13090036741 := pock 0 (q := 421987) (r := 31020) (a := 2) (k := 34) (by decide) prime_u (by decide) (fun k h => absurd h (by omega)) (by decide) (by decide) (by decide +kernel) (by decide +kernel)
theorem prime_s : IsPrime 3819663927398918131021 := pock 4 (q := 13090036741) (r := 291799328220) (a := 2) (k := 72) (by decide) prime_t (by decide) (by decide +kernel) (by decide +kernel) (by decide +kernel) (by decide +kernel) (by decide +kernel)
theorem prime_r : IsPrime 1125266252156850182658904441386709967 := pock 0 (q := 3819663927398918131021) (r := 294598235223046) (a := 2) (k := 120) (by decide +kernel) prime_s (by decide) (fun k h => absurd h (by omega)) (by decide +kernel) (by decide +kernel) (by decide +kernel) (by decide +kernel)
theorem prime_q : IsPrime 15778400344354997994418419698270088123916926905054652752758194827714659 := pock 0 (q := 1125266252156850182658904441386709967) (r := 14021926201120671579994175730661374) (a := 2) (k := 234) (by decide +kernel) prime_r (by decide +kernel) (fun k h => absurd h (by omega)) (by decide +kernel) (by decide +kernel) (by decide +kernel) (by decide +kernel)
theorem prime_p : IsPrime pN := pock 0 (q := 15778400344354997994418419698270088123916926905054652752758194827714659) (r := 253663835868735594330404923636534084567099854) (a := 2) (k := 381) (by decide +kernel) prime_q (by decide +kernel) (fun k h => absurd h (by omega)) (by decide +kernel) (by decide +kernel) (by decide +kernel) (by decide +kernel)

end Go.Proofs.Ytfkmooldindfjaa
