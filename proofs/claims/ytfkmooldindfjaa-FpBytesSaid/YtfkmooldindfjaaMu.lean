/- Numbers of bytes. -/
import Derived.Test.YtfkmooldindfjaaFx
set_option linter.unusedSimpArgs false
set_option linter.unusedVariables false
namespace Go.Proofs.Ytfkmooldindfjaa

def bAt (b : List UInt8) (j : Nat) : UInt8 := b.getD j 0
/-- The value of the last n bytes. -/
def bval (b : List UInt8) : Nat → Nat
  | 0 => 0
  | n + 1 => bval b n + (bAt b (b.length - 1 - n)).toNat * 256 ^ n

theorem bval_lt (b : List UInt8) : ∀ n, bval b n < 256 ^ n
  | 0 => by simp [bval]
  | n + 1 => by
    have ih := bval_lt b n
    have h := (bAt b (b.length - 1 - n)).toNat_lt
    simp only [bval]
    rw [Nat.pow_succ]
    have h2 : (bAt b (b.length - 1 - n)).toNat * 256 ^ n ≤ 255 * 256 ^ n := Nat.mul_le_mul_right _ (by omega)
    omega

theorem valAt_set_le (xs : List UInt64) (n : Nat) (v : UInt64) : ∀ {m : Nat}, m ≤ n → valAt (xs.set n v) m = valAt xs m
  | 0, _ => rfl
  | m + 1, h => by
    simp only [valAt]
    rw [valAt_set_le xs n v (m := m) (by omega), set_get xs n v (by omega)]
theorem valAt_set {xs : List UInt64} {n : Nat} (h : n < xs.length) (v : UInt64) : ∀ {m : Nat}, n < m → valAt (xs.set n v) m + (atF xs n).toNat * W64 ^ n = valAt xs m + v.toNat * W64 ^ n
  | 0, h1 => by omega
  | m + 1, h1 => by
    simp only [valAt]
    rcases Nat.lt_or_ge n m with h2 | h2
    · have ih := valAt_set h v h2
      rw [set_get xs n v (by omega)]
      omega
    · have e : m = n := by omega
      subst e
      rw [valAt_set_le xs m v (Nat.le_refl _), atF_set_eq h]
      omega
theorem valAt_split (xs : List UInt64) (q : Nat) : ∀ {m : Nat}, q < m → ∃ r, valAt xs m = valAt xs q + (atF xs q).toNat * W64 ^ q + r * W64 ^ (q + 1)
  | 0, h => by omega
  | m + 1, h => by
    rcases Nat.lt_or_ge q m with h2 | h2
    · obtain ⟨r, hr⟩ := valAt_split xs q h2
      refine ⟨r + (atF xs m).toNat * W64 ^ (m - (q + 1)), ?_⟩
      simp only [valAt]
      rw [hr, Nat.add_mul, Nat.mul_assoc, ← Nat.pow_add, show m - (q + 1) + (q + 1) = m by omega]
      omega
    · have e : m = q := by omega
      subst e
      exact ⟨0, by simp only [valAt]; omega⟩

theorem byte_pow (k : Nat) : 256 ^ k = 256 ^ (k % 8) * W64 ^ (k / 8) := by
  have h := Nat.mod_add_div k 8
  calc 256 ^ k = 256 ^ (k % 8 + 8 * (k / 8)) := by rw [h]
    _ = 256 ^ (k % 8) * (256 ^ 8) ^ (k / 8) := by rw [Nat.pow_add, Nat.pow_mul]
    _ = _ := rfl
theorem shl8_nat (c : UInt8) {s : Nat} (hs : s < 8) : (shlU c.toUInt64 ((8 * s : Nat) : Int)).toNat = c.toNat * 256 ^ s := by
  have hc := c.toNat_lt
  unfold shlU
  rw [Int.toNat_natCast, Nat.min_eq_left (by omega), UInt64.toNat_ofNat', Nat.pow_mul]
  have h1 : (c.toUInt64).toNat = c.toNat := rfl
  rw [h1]
  show c.toNat * 256 ^ s % 18446744073709551616 = _
  have h2 : 256 ^ s ≤ 256 ^ 7 := Nat.pow_le_pow_right (by decide) (by omega)
  have h3 : c.toNat * 256 ^ s ≤ 255 * 256 ^ 7 := Nat.mul_le_mul (by omega) h2
  exact Nat.mod_eq_of_lt (Nat.lt_of_le_of_lt h3 (by decide))

/-! from the last byte -/
def rtkAt (b : List UInt8) : Nat → List UInt64
  | 0 => List.replicate ((b.length + 7) / 8) 0
  | i + 1 => (rtkAt b i).set (i / 8) (atF (rtkAt b i) (i / 8) + shlU (bAt b (b.length - 1 - i)).toUInt64 ((8 * (i % 8) : Nat) : Int))
theorem rtkAt_len (b : List UInt8) : ∀ i, (rtkAt b i).length = (b.length + 7) / 8
  | 0 => by simp only [rtkAt, List.length_replicate]
  | i + 1 => by simp only [rtkAt, List.length_set, rtkAt_len b i]
theorem valAt_rep (n : Nat) : ∀ m, valAt (List.replicate n 0) m = 0
  | 0 => rfl
  | m + 1 => by
    simp only [valAt]
    rw [valAt_rep n m, atF_rep]
    simp
theorem rtkAt_val (b : List UInt8) : ∀ i, i ≤ b.length → valAt (rtkAt b i) ((b.length + 7) / 8) = bval b i
  | 0, _ => valAt_rep _ _
  | i + 1, hi => by
    have ih := rtkAt_val b i (by omega)
    have hl := rtkAt_len b i
    have hq : i / 8 < (b.length + 7) / 8 := by omega
    have hlt := bval_lt b i
    have hs : i % 8 < 8 := Nat.mod_lt _ (by decide)
    simp only [rtkAt, bval]
    have e := valAt_set (xs := rtkAt b i) (n := i / 8) (by omega) (atF (rtkAt b i) (i / 8) + shlU (bAt b (b.length - 1 - i)).toUInt64 ((8 * (i % 8) : Nat) : Int)) hq
    obtain ⟨r, hr⟩ := valAt_split (rtkAt b i) (i / 8) hq
    have hA : (atF (rtkAt b i) (i / 8)).toNat < 256 ^ (i % 8) := by
      rw [byte_pow i, ← ih, hr] at hlt
      exact Nat.lt_of_mul_lt_mul_right (a := W64 ^ (i / 8)) (by omega)
    have hc := (bAt b (b.length - 1 - i)).toNat_lt
    have h7 : 256 ^ (i % 8) ≤ 256 ^ 7 := Nat.pow_le_pow_right (by decide) (by omega)
    have hsum : (atF (rtkAt b i) (i / 8) + shlU (bAt b (b.length - 1 - i)).toUInt64 ((8 * (i % 8) : Nat) : Int)).toNat = (atF (rtkAt b i) (i / 8)).toNat + (bAt b (b.length - 1 - i)).toNat * 256 ^ (i % 8) := by
      rw [UInt64.toNat_add, shl8_nat _ hs]
      have h3 : (bAt b (b.length - 1 - i)).toNat * 256 ^ (i % 8) ≤ 255 * 256 ^ 7 := Nat.mul_le_mul (by omega) h7
      have h4 : (256 : Nat) ^ 7 = 72057594037927936 := by decide
      rw [h4] at h3 h7
      omega
    rw [hsum, ih, Nat.add_mul, Nat.mul_assoc, ← byte_pow] at e
    omega

/-! from the first byte -/
def takAt (b : List UInt8) : Nat → List UInt64
  | 0 => List.replicate (b.length / 8 + 1) 0
  | i + 1 => (takAt b i).set ((b.length - 1 - i) / 8) (atF (takAt b i) ((b.length - 1 - i) / 8) ||| shlU (bAt b i).toUInt64 ((8 * ((b.length - 1 - i) % 8) : Nat) : Int))
theorem takAt_len (b : List UInt8) : ∀ i, (takAt b i).length = b.length / 8 + 1
  | 0 => by simp only [takAt, List.length_replicate]
  | i + 1 => by simp only [takAt, List.length_set, takAt_len b i]
theorem or_add {x y : UInt64} {s : Nat} (hs : s < 8) {c : Nat} (hy : y.toNat = c * 256 ^ s) (hc : c < 256) {m : Nat} (hx : x.toNat = m * 256 ^ (s + 1)) : (x ||| y).toNat = x.toNat + y.toNat := by
  rw [UInt64.toNat_or]
  have h2 : (256 : Nat) ^ (s + 1) = 2 ^ (8 * (s + 1)) := by rw [Nat.pow_mul]
  have hlt : y.toNat < 2 ^ (8 * (s + 1)) := by
    rw [← h2, hy, Nat.pow_succ, Nat.mul_comm (256 ^ s)]
    exact Nat.mul_lt_mul_of_pos_right hc (Nat.pow_pos (by decide))
  rw [hx, h2, Nat.mul_comm m]
  exact (Nat.two_pow_add_eq_or_of_lt hlt m).symm
theorem takAt_val (b : List UInt8) : ∀ i, i ≤ b.length → valAt (takAt b i) (b.length / 8 + 1) + bval b (b.length - i) = bval b b.length ∧ ∃ m, valAt (takAt b i) (b.length / 8 + 1) = m * 256 ^ (b.length - i)
  | 0, _ => by
    rw [show takAt b 0 = List.replicate (b.length / 8 + 1) 0 from rfl, valAt_rep]
    exact ⟨by rw [Nat.zero_add, Nat.sub_zero], 0, by rw [Nat.zero_mul]⟩
  | i + 1, hi => by
    obtain ⟨ih, m, hm⟩ := takAt_val b i (by omega)
    have hl := takAt_len b i
    obtain ⟨k, hk⟩ : ∃ k, b.length - 1 - i = k := ⟨_, rfl⟩
    have hk1 : b.length - i = k + 1 := by omega
    have hk2 : b.length - (i + 1) = k := by omega
    have hk3 : b.length - 1 - k = i := by omega
    have hq : k / 8 < b.length / 8 + 1 := by omega
    have hs : k % 8 < 8 := Nat.mod_lt _ (by decide)
    rw [hk1] at ih hm
    simp only [bval] at ih
    rw [hk3] at ih
    rw [hk2]
    simp only [takAt]
    rw [hk]
    have e := valAt_set (xs := takAt b i) (n := k / 8) (by omega) (atF (takAt b i) (k / 8) ||| shlU (bAt b i).toUInt64 ((8 * (k % 8) : Nat) : Int)) hq
    obtain ⟨r, hr⟩ := valAt_split (takAt b i) (k / 8) hq
    have hvl := valAt_lt (takAt b i) (k / 8)
    have hW : 0 < W64 ^ (k / 8) := Nat.pow_pos (by decide)
    have hpow : 256 ^ (k + 1) = 256 ^ (k % 8 + 1) * W64 ^ (k / 8) := by rw [Nat.pow_succ, byte_pow k, Nat.mul_right_comm, ← Nat.pow_succ]
    have h0 : valAt (takAt b i) (k / 8) = 0 ∧ (atF (takAt b i) (k / 8)).toNat + r * W64 = m * 256 ^ (k % 8 + 1) := by
      rw [hm, hpow, show W64 ^ (k / 8 + 1) = W64 * W64 ^ (k / 8) by rw [Nat.pow_succ, Nat.mul_comm], ← Nat.mul_assoc m, ← Nat.mul_assoc r, Nat.add_assoc, ← Nat.add_mul] at hr
      have h1 := congrArg (· % W64 ^ (k / 8)) hr
      simp only [Nat.mul_mod_left, Nat.add_mul_mod_self_right, Nat.mod_eq_of_lt hvl] at h1
      refine ⟨h1.symm, ?_⟩
      rw [← h1, Nat.zero_add] at hr
      exact (Nat.eq_of_mul_eq_mul_right hW hr).symm
    obtain ⟨n, hn⟩ : ∃ n, (atF (takAt b i) (k / 8)).toNat = n * 256 ^ (k % 8 + 1) := by
      have hd : 256 ^ (k % 8 + 1) ∣ W64 := ⟨256 ^ (7 - k % 8), by rw [← Nat.pow_add, show k % 8 + 1 + (7 - k % 8) = 8 by omega]; rfl⟩
      have h1 : 256 ^ (k % 8 + 1) ∣ (atF (takAt b i) (k / 8)).toNat := (Nat.dvd_add_left (Nat.dvd_trans hd (Nat.dvd_mul_left _ r))).1 ⟨m, by rw [h0.2, Nat.mul_comm]⟩
      obtain ⟨n, hn⟩ := h1
      exact ⟨n, by rw [hn, Nat.mul_comm]⟩
    have hsum := or_add hs (shl8_nat (bAt b i) hs) (bAt b i).toNat_lt hn
    rw [hsum, shl8_nat _ hs, Nat.add_mul, Nat.mul_assoc _ (256 ^ (k % 8)), ← byte_pow] at e
    refine ⟨by omega, m * 256 + (bAt b i).toNat, ?_⟩
    rw [hm] at e
    rw [Nat.add_mul, Nat.mul_assoc, Nat.mul_comm 256, ← Nat.pow_succ]
    generalize m * 256 ^ (k + 1) = X at *
    generalize (bAt b i).toNat * 256 ^ k = Z at *
    generalize (atF (takAt b i) (k / 8)).toNat * W64 ^ (k / 8) = Y at *
    clear ih hm hr h0 hn hsum hpow hvl hW
    omega

def takF (b : List UInt8) : List UInt64 := cutF (takAt b b.length)
def rtkF (b : List UInt8) : List UInt64 := cutF (rtkAt b b.length)
theorem takF_val (b : List UInt8) : valL (takF b) = bval b b.length := by
  have h := (takAt_val b b.length (Nat.le_refl _)).1
  rw [Nat.sub_self] at h
  unfold takF
  rw [valL_cut]
  unfold valL
  rw [takAt_len]
  exact h
theorem rtkF_val (b : List UInt8) : valL (rtkF b) = bval b b.length := by
  have h := rtkAt_val b b.length (Nat.le_refl _)
  unfold rtkF
  rw [valL_cut]
  unfold valL
  rw [rtkAt_len]
  exact h

theorem valAt_inj {xs ys : List UInt64} : ∀ {n : Nat}, valAt xs n = valAt ys n → ∀ j, j < n → atF xs j = atF ys j
  | 0, _, j, hj => by omega
  | n + 1, h, j, hj => by
    simp only [valAt] at h
    have h1 := valAt_lt xs n
    have h2 := valAt_lt ys n
    have hW : 0 < W64 ^ n := Nat.pow_pos (by decide)
    have e1 := congrArg (· % W64 ^ n) h
    simp only [Nat.add_mul_mod_self_right, Nat.mod_eq_of_lt h1, Nat.mod_eq_of_lt h2] at e1
    rcases Nat.lt_or_ge j n with h3 | h3
    · exact valAt_inj e1 j h3
    · have ej : j = n := by omega
      subst ej
      rw [e1] at h
      exact UInt64.toNat.inj (Nat.eq_of_mul_eq_mul_right hW (Nat.add_left_cancel h))
theorem normal_ext {xs ys : List UInt64} (hx : Normal xs) (hy : Normal ys) (h : valL xs = valL ys) : xs = ys := by
  have hl : xs.length = ys.length := by
    rcases Nat.lt_trichotomy xs.length ys.length with h1 | h1 | h1
    · have := len_lt_val (xs := xs) (ys := ys) (by rw [hx, hy]; exact h1)
      omega
    · exact h1
    · have := len_lt_val (xs := ys) (ys := xs) (by rw [hx, hy]; exact h1)
      omega
  have hi := valAt_inj (xs := xs) (ys := ys) (n := xs.length) (by unfold valL at h; rw [h, hl])
  refine List.ext_getElem hl fun j h1 h2 => ?_
  have := hi j h1
  unfold atF at this
  rw [List.getD_eq_getElem?_getD, List.getD_eq_getElem?_getD, List.getElem?_eq_getElem h1, List.getElem?_eq_getElem h2] at this
  exact this
theorem takF_eq (b : List UInt8) : takF b = rtkF b := normal_ext (cutF_idem _) (cutF_idem _) (by rw [takF_val, rtkF_val])

end Go.Proofs.Ytfkmooldindfjaa
