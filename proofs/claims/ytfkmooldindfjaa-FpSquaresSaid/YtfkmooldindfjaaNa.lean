/- Plain numbers, part a: Fermat's little theorem, and Pocklington's test. -/
import Init
set_option linter.unusedSimpArgs false
set_option linter.unusedVariables false
namespace Go.Proofs.Ytfkmooldindfjaa

def IsPrime (p : Nat) : Prop := 1 < p ∧ ∀ d, d ∣ p → d = 1 ∨ d = p

theorem IsPrime.pos {p : Nat} (h : IsPrime p) : 0 < p := by have := h.1; omega

theorem IsPrime.coprime {p a : Nat} (h : IsPrime p) (ha : ¬ p ∣ a) : Nat.gcd p a = 1 := by
  rcases h.2 _ (Nat.gcd_dvd_left p a) with h1 | h1
  · exact h1
  · exact absurd (h1 ▸ Nat.gcd_dvd_right p a) ha

theorem IsPrime.dvd_mul {p a b : Nat} (h : IsPrime p) (hd : p ∣ a * b) : p ∣ a ∨ p ∣ b := by
  by_cases ha : p ∣ a
  · exact .inl ha
  · exact .inr (Nat.Coprime.dvd_of_dvd_mul_left (h.coprime ha) hd)

theorem IsPrime.dvd_pow {p a : Nat} (h : IsPrime p) : ∀ {n : Nat}, p ∣ a ^ n → p ∣ a
  | 0, hd => by
    have := Nat.le_of_dvd (by simp) hd
    have := h.1
    simp at *
    omega
  | n + 1, hd => by
    rw [Nat.pow_succ] at hd
    rcases h.dvd_mul hd with h1 | h1
    · exact h.dvd_pow h1
    · exact h1

/-! ## the binomial theorem -/

def ch : Nat → Nat → Nat
  | _, 0 => 1
  | 0, _ + 1 => 0
  | n + 1, k + 1 => ch n k + ch n (k + 1)

theorem ch_zero (n : Nat) : ch n 0 = 1 := by cases n <;> rfl

theorem ch_big : ∀ {n k : Nat}, n < k → ch n k = 0
  | 0, k + 1, _ => rfl
  | n + 1, k + 1, h => by simp only [ch]; rw [ch_big (by omega), ch_big (by omega)]

theorem ch_self : ∀ n : Nat, ch n n = 1
  | 0 => rfl
  | n + 1 => by simp only [ch]; rw [ch_self n, ch_big (by omega)]

theorem ch_mul : ∀ n k : Nat, (k + 1) * ch (n + 1) (k + 1) = (n + 1) * ch n k
  | 0, 0 => rfl
  | 0, k + 1 => by simp [ch]
  | n + 1, 0 => by
    have h := ch_mul n 0
    simp only [ch_zero, Nat.zero_add, Nat.one_mul, Nat.mul_one] at h ⊢
    show ch (n + 1) 0 + ch (n + 1) 1 = n + 1 + 1
    rw [ch_zero, h]
    omega
  | n + 1, j + 1 => by
    have h1 := ch_mul n j
    have h2 := ch_mul n (j + 1)
    have e : ch (n + 1) (j + 1) = ch n j + ch n (j + 1) := rfl
    show (j + 1 + 1) * (ch (n + 1) (j + 1) + ch (n + 1) (j + 1 + 1)) = (n + 1 + 1) * ch (n + 1) (j + 1)
    rw [Nat.mul_add, h2, Nat.succ_mul (j + 1), h1]
    rw [Nat.succ_mul (n + 1), e, Nat.mul_add]
    omega

def bs (a n : Nat) : Nat → Nat
  | 0 => 0
  | m + 1 => bs a n m + ch n m * a ^ m

theorem bs_step (a n : Nat) : ∀ m : Nat, bs a (n + 1) (m + 1) = bs a n (m + 1) + a * bs a n m
  | 0 => by simp [bs, ch_zero]
  | m + 1 => by
    have h := bs_step a n m
    show bs a (n + 1) (m + 1) + ch (n + 1) (m + 1) * a ^ (m + 1) = bs a n (m + 1) + ch n (m + 1) * a ^ (m + 1) + a * (bs a n m + ch n m * a ^ m)
    rw [h, show ch (n + 1) (m + 1) = ch n m + ch n (m + 1) from rfl, Nat.add_mul, Nat.mul_add, Nat.pow_succ]
    have : ch n m * (a ^ m * a) = a * (ch n m * a ^ m) := by rw [← Nat.mul_assoc, Nat.mul_comm]
    omega

theorem binom (a : Nat) : ∀ n : Nat, (a + 1) ^ n = bs a n (n + 1)
  | 0 => by simp [bs, ch]
  | n + 1 => by
    rw [bs_step a n (n + 1), show bs a n (n + 1 + 1) = bs a n (n + 1) + ch n (n + 1) * a ^ (n + 1) from rfl, ch_big (Nat.lt_succ_self n), Nat.zero_mul, Nat.add_zero, ← binom a n, Nat.pow_succ, Nat.mul_add, Nat.mul_one, Nat.mul_comm a]
    omega

theorem ch_prime {p k : Nat} (h : IsPrime p) (h0 : 0 < k) (hk : k < p) : p ∣ ch p k := by
  obtain ⟨j, rfl⟩ : ∃ j, k = j + 1 := ⟨k - 1, by omega⟩
  obtain ⟨n, rfl⟩ : ∃ n, p = n + 1 := ⟨p - 1, by omega⟩
  have hd : n + 1 ∣ (j + 1) * ch (n + 1) (j + 1) := ⟨ch n j, ch_mul n j⟩
  rcases h.dvd_mul hd with h1 | h1
  · exact absurd (Nat.le_of_dvd (by omega) h1) (by omega)
  · exact h1

theorem bs_prime {p : Nat} (h : IsPrime p) (a : Nat) : ∀ m : Nat, m < p → bs a p (m + 1) % p = 1
  | 0, _ => by
    simp only [bs, ch_zero, Nat.pow_zero, Nat.mul_one, Nat.zero_add]
    exact Nat.mod_eq_of_lt h.1
  | m + 1, hm => by
    have ih := bs_prime h a m (by omega)
    obtain ⟨c, hc⟩ := ch_prime h (Nat.succ_pos m) hm
    show (bs a p (m + 1) + ch p (m + 1) * a ^ (m + 1)) % p = 1
    rw [hc, Nat.mul_assoc, Nat.add_mul_mod_self_left]
    exact ih

theorem fermat_a {p : Nat} (h : IsPrime p) : ∀ a : Nat, a ^ p % p = a % p
  | 0 => by
    have := h.pos
    rw [Nat.zero_pow this]
  | a + 1 => by
    have ih := fermat_a h a
    have hp := h.1
    obtain ⟨n, rfl⟩ : ∃ n, p = n + 1 := ⟨p - 1, by omega⟩
    rw [binom a (n + 1), show bs a (n + 1) (n + 1 + 1) = bs a (n + 1) (n + 1) + ch (n + 1) (n + 1) * a ^ (n + 1) from rfl, ch_self, Nat.one_mul, Nat.add_mod, bs_prime h a n (by omega), ih]
    rw [Nat.add_mod a 1, Nat.mod_eq_of_lt hp, Nat.add_comm]

theorem fermat {p a : Nat} (h : IsPrime p) (ha : ¬ p ∣ a) : a ^ (p - 1) % p = 1 := by
  have hp := h.1
  have h1 := fermat_a h a
  obtain ⟨n, rfl⟩ : ∃ n, p = n + 1 := ⟨p - 1, by omega⟩
  rw [Nat.add_sub_cancel]
  have h0 : 0 < a := Nat.pos_of_ne_zero (by rintro rfl; exact ha ⟨0, rfl⟩)
  have hle : a ≤ a ^ (n + 1) := Nat.le_self_pow (by omega) a
  have hd : n + 1 ∣ a ^ (n + 1) - a := Nat.dvd_of_mod_eq_zero (Nat.sub_mod_eq_zero_of_mod_eq h1)
  have h2 : 1 ≤ a ^ n := Nat.one_le_pow _ _ h0
  have e : a ^ (n + 1) - a = a * (a ^ n - 1) := by rw [Nat.pow_succ, Nat.mul_sub, Nat.mul_one, Nat.mul_comm]
  rw [e] at hd
  rcases h.dvd_mul hd with h3 | h3
  · exact absurd h3 ha
  · obtain ⟨c, hc⟩ := h3
    rw [show a ^ n = (n + 1) * c + 1 by omega, Nat.mul_add_mod]
    exact Nat.mod_eq_of_lt hp

/-! ## a prime divisor -/

theorem exists_prime_dvd : ∀ n : Nat, 1 < n → ∃ p, IsPrime p ∧ p ∣ n := by
  intro n
  induction n using Nat.strongRecOn with
  | ind n ih =>
    intro hn
    by_cases h : IsPrime n
    · exact ⟨n, h, Nat.dvd_refl n⟩
    · have : ∃ d, d ∣ n ∧ d ≠ 1 ∧ d ≠ n := by
        apply Classical.byContradiction
        intro hc
        refine h ⟨hn, fun d hd => ?_⟩
        by_cases h1 : d = 1
        · exact .inl h1
        · by_cases h2 : d = n
          · exact .inr h2
          · exact absurd ⟨d, hd, h1, h2⟩ hc
      obtain ⟨d, hd, h1, h2⟩ := this
      have hdn := Nat.le_of_dvd (by omega) hd
      have hd0 : d ≠ 0 := by
        rintro rfl
        have := Nat.eq_zero_of_zero_dvd hd
        omega
      obtain ⟨p, hp, hpd⟩ := ih d (by omega) (by omega)
      exact ⟨p, hp, Nat.dvd_trans hpd hd⟩

theorem pow_gcd {d b : Nat} (hd : 1 < d) : ∀ m n : Nat, b ^ m % d = 1 → b ^ n % d = 1 → b ^ Nat.gcd m n % d = 1 := by
  intro m n
  induction m, n using Nat.gcd.induction with
  | H0 n => intro _ h; rw [Nat.gcd_zero_left]; exact h
  | H1 m n hm ih =>
    intro h1 h2
    rw [Nat.gcd_rec]
    refine ih ?_ h1
    have e : b ^ n % d = (b ^ m) ^ (n / m) * b ^ (n % m) % d := by rw [← Nat.pow_mul, ← Nat.pow_add, Nat.div_add_mod]
    rw [h2, Nat.mul_mod, Nat.pow_mod, h1, Nat.one_pow, Nat.mod_eq_of_lt hd, Nat.one_mul, Nat.mod_mod] at e
    exact e.symm

/-- What Pocklington's test tells of each prime divisor. -/
theorem pock_key {n q r a : Nat} (hn : n = q * r + 1) (hq : IsPrime q) (hr : 0 < r) (h1 : a ^ (q * r) % n = 1) (h2 : Nat.gcd (a ^ r % n + (n - 1)) n = 1) {d : Nat} (hd : IsPrime d) (hdn : d ∣ n) : q ∣ d - 1 := by
  have hq1 := hq.1
  have hn1 : 1 < n := by
    have : 0 < q * r := Nat.mul_pos (by omega) hr
    omega
  have hd1 := hd.1
  have hb : (a ^ r) ^ q % d = 1 := by
    rw [← Nat.pow_mul, Nat.mul_comm r q]
    have : a ^ (q * r) % n % d = a ^ (q * r) % d := Nat.mod_mod_of_dvd _ hdn
    rw [← this, h1, Nat.mod_eq_of_lt hd1]
  have hnd : ¬ d ∣ a ^ r := by
    intro h
    obtain ⟨c, hc⟩ := h
    rw [hc, Nat.mul_pow, Nat.mul_mod] at hb
    have : d ^ q % d = 0 := by
      obtain ⟨k, rfl⟩ : ∃ k, q = k + 1 := ⟨q - 1, by omega⟩
      rw [Nat.pow_succ, Nat.mul_mod_left]
    rw [this] at hb
    simp at hb
  have hf := fermat hd hnd
  have hne : a ^ r % d ≠ 1 := by
    intro h
    have hdd : d ∣ a ^ r % n + (n - 1) := by
      have e : (a ^ r % n) % d = 1 := by rw [Nat.mod_mod_of_dvd _ hdn]; exact h
      have e2 : (a ^ r % n + (n - 1) + 1) % d = 1 := by
        rw [show a ^ r % n + (n - 1) + 1 = a ^ r % n + n by omega, Nat.add_mod, e]
        obtain ⟨c, hc⟩ := hdn
        rw [hc, Nat.mul_mod_right, Nat.add_zero, Nat.mod_eq_of_lt hd1]
      have e3 := Nat.sub_mod_eq_zero_of_mod_eq (e2.trans (Nat.mod_eq_of_lt hd1).symm)
      rw [Nat.add_sub_cancel] at e3
      exact Nat.dvd_of_mod_eq_zero e3
    have := Nat.dvd_gcd hdd hdn
    rw [h2] at this
    have := Nat.le_of_dvd (by omega) this
    omega
  apply Classical.byContradiction
  intro hc
  have hg := hq.coprime hc
  have := pow_gcd hd1 q (d - 1) hb hf
  rw [hg, Nat.pow_one] at this
  exact hne this

/-- Pocklington's test: a prime not far below the root; the few divisors that might be are tried. -/
theorem pocklington {n q r a K : Nat} (hn : n = q * r + 1) (hq : IsPrime q) (hr : 0 < r) (hK : ∀ k, k < K → ¬ (q * (k + 1) + 1) ∣ n) (hqq : n < (q * (K + 1) + 1) * (q * (K + 1) + 1)) (h1 : a ^ (q * r) % n = 1) (h2 : Nat.gcd (a ^ r % n + (n - 1)) n = 1) : IsPrime n := by
  have hq1 := hq.1
  have hn1 : 1 < n := by
    have : 0 < q * r := Nat.mul_pos (by omega) hr
    omega
  refine ⟨hn1, fun x hx => ?_⟩
  have key : ∀ d, IsPrime d → d ∣ n → q * (K + 1) + 1 ≤ d := by
    intro d hd hdn
    obtain ⟨c, hc⟩ := pock_key hn hq hr h1 h2 hd hdn
    have hd1 := hd.1
    have hdc : d = q * c + 1 := by omega
    rcases Nat.lt_or_ge K c with h | h
    · have := Nat.mul_le_mul_left q (show K + 1 ≤ c from h)
      omega
    · have hc0 : c ≠ 0 := by rintro rfl; omega
      obtain ⟨k, rfl⟩ : ∃ k, c = k + 1 := ⟨c - 1, by omega⟩
      exact absurd (hdc ▸ hdn) (hK k (by omega))
  by_cases hx1 : x = 1
  · exact .inl hx1
  · right
    obtain ⟨y, hy⟩ := hx
    have hx0 : x ≠ 0 := by rintro rfl; omega
    by_cases hy1 : y = 1
    · subst hy1; omega
    · have hy0 : y ≠ 0 := by rintro rfl; omega
      obtain ⟨d, hd, hdx⟩ := exists_prime_dvd x (by omega)
      obtain ⟨e, he, hey⟩ := exists_prime_dvd y (by omega)
      have k1 := key d hd (Nat.dvd_trans hdx ⟨y, hy⟩)
      have k2 := key e he (Nat.dvd_trans hey ⟨x, by rw [hy, Nat.mul_comm]⟩)
      have l1 := Nat.le_of_dvd (by omega) hdx
      have l2 := Nat.le_of_dvd (by omega) hey
      have := Nat.mul_le_mul (show q * (K + 1) + 1 ≤ x by omega) (show q * (K + 1) + 1 ≤ y by omega)
      omega

end Go.Proofs.Ytfkmooldindfjaa
