/- Values of lists of limbs: sums, differences, bits. -/
import Derived.Test.YtchlamfdofpolaaMB
set_option linter.unusedSimpArgs false
set_option linter.unusedVariables false
namespace Go.Proofs.Ytchlamfdofpolaa

theorem atF_app_lt {l : List UInt64} (x : UInt64) {i : Nat} (h : i < l.length) : atF (l ++ [x]) i = atF l i := by
  unfold atF
  rw [List.getD_eq_getElem?_getD, List.getD_eq_getElem?_getD, List.getElem?_append_left h]
theorem atF_app_eq {l : List UInt64} (x : UInt64) {i : Nat} (h : i = l.length) : atF (l ++ [x]) i = x := by
  subst h
  unfold atF
  rw [List.getD_eq_getElem?_getD, List.getElem?_append_right (Nat.le_refl _), Nat.sub_self]
  rfl
theorem valAt_app_le {l : List UInt64} (x : UInt64) : ∀ {k : Nat}, k ≤ l.length → valAt (l ++ [x]) k = valAt l k
  | 0, _ => rfl
  | k + 1, h => by
    simp only [valAt]
    rw [valAt_app_le x (k := k) (by omega), atF_app_lt x (by omega)]
theorem valAt_snoc {l : List UInt64} (x : UInt64) {k : Nat} (h : k = l.length) : valAt (l ++ [x]) (k + 1) = valAt l k + x.toNat * W64 ^ k := by
  simp only [valAt]
  rw [valAt_app_le x (by omega), atF_app_eq x h]
theorem atF_out {l : List UInt64} {i : Nat} (h : l.length ≤ i) : atF l i = 0 := by
  unfold atF
  rw [List.getD_eq_getElem?_getD, List.getElem?_eq_none h]
  rfl
theorem valAt_out (l : List UInt64) : ∀ {k : Nat}, l.length ≤ k → valAt l k = valL l
  | 0, h => by unfold valL; rw [show l.length = 0 by omega]
  | k + 1, h => by
    rcases Nat.lt_or_ge k l.length with h1 | h1
    · unfold valL; rw [show l.length = k + 1 by omega]
    · simp only [valAt]
      rw [valAt_out l h1, atF_out h1]
      simp

theorem addAt_val (xs ys : List UInt64) : ∀ k, valAt (addAt xs ys k).1 k + (addAt xs ys k).2.toNat * W64 ^ k = valAt xs k + valAt ys k
  | 0 => rfl
  | k + 1 => by
    have ih := addAt_val xs ys k
    have hs := add_step (atF xs k) (atF ys k) (addAt xs ys k).2
    simp only [addAt]
    rw [valAt_snoc _ (addAt_len xs ys k).symm]
    simp only [valAt, Nat.pow_succ]
    have e1 : (addC (atF xs k) (atF ys k) (addAt xs ys k).2).toNat * (W64 ^ k * W64) = (W64 * (addC (atF xs k) (atF ys k) (addAt xs ys k).2).toNat) * W64 ^ k := by
      rw [Nat.mul_comm (W64 ^ k), ← Nat.mul_assoc, Nat.mul_comm W64]
    have e2 : ((addS (atF xs k) (atF ys k) (addAt xs ys k).2).toNat + W64 * (addC (atF xs k) (atF ys k) (addAt xs ys k).2).toNat) * W64 ^ k = ((atF xs k).toNat + (atF ys k).toNat + (addAt xs ys k).2.toNat) * W64 ^ k := by rw [hs]
    simp only [Nat.add_mul] at e2
    rw [e1]
    omega

theorem sumF_val (xs ys : List UInt64) : valL (sumF xs ys) = valL xs + valL ys := by
  have h := addAt_val xs ys (max xs.length ys.length)
  unfold sumF
  rw [valL_cut]
  generalize hk : max xs.length ys.length = k at *
  have hl := addAt_len xs ys k
  have e : valL ((addAt xs ys k).1 ++ [b2u (addAt xs ys k).2]) = valAt (addAt xs ys k).1 k + (b2u (addAt xs ys k).2).toNat * W64 ^ k := by
    unfold valL
    rw [List.length_append, hl]
    exact valAt_snoc _ hl.symm
  rw [e, b2u_nat, h, valAt_out xs (by omega), valAt_out ys (by omega)]

theorem subAt_val (xs ys : List UInt64) : ∀ k, valAt (subAt xs ys k).1 k + valAt ys k = valAt xs k + (subAt xs ys k).2.toNat * W64 ^ k
  | 0 => rfl
  | k + 1 => by
    have ih := subAt_val xs ys k
    have hs := sub_step (atF xs k) (atF ys k) (subAt xs ys k).2
    simp only [subAt]
    rw [valAt_snoc _ (subAt_len xs ys k).symm]
    simp only [valAt, Nat.pow_succ]
    have e1 : (subB (atF xs k) (atF ys k) (subAt xs ys k).2).toNat * (W64 ^ k * W64) = (W64 * (subB (atF xs k) (atF ys k) (subAt xs ys k).2).toNat) * W64 ^ k := by
      rw [Nat.mul_comm (W64 ^ k), ← Nat.mul_assoc, Nat.mul_comm W64]
    have e2 : ((subS (atF xs k) (atF ys k) (subAt xs ys k).2).toNat + (atF ys k).toNat + (subAt xs ys k).2.toNat) * W64 ^ k = ((atF xs k).toNat + W64 * (subB (atF xs k) (atF ys k) (subAt xs ys k).2).toNat) * W64 ^ k := by rw [hs]
    simp only [Nat.add_mul] at e2
    rw [e1]
    omega

theorem rlessF_val {xs ys : List UInt64} (h : valL ys ≤ valL xs) : valL (rlessF xs ys).1 + valL ys = valL xs := by
  have hc : ¬ cmpR xs ys < 0 := by
    rw [cmpR_val, if_neg (by omega)]
    split <;> omega
  unfold rlessF
  rw [if_neg hc]
  show valL (cutF _) + _ = _
  rw [valL_cut]
  have hv := subAt_val xs ys (max xs.length ys.length)
  generalize hk : max xs.length ys.length = k at *
  have hl := subAt_len xs ys k
  have hlt := valAt_lt (subAt xs ys k).1 k
  rw [valAt_out xs (by omega), valAt_out ys (by omega)] at hv
  have e : valL (subAt xs ys k).1 = valAt (subAt xs ys k).1 k := by unfold valL; rw [hl]
  rw [e]
  cases hb : (subAt xs ys k).2 with
  | false =>
    rw [hb] at hv
    simpa using hv
  | true =>
    rw [hb] at hv
    simp only [Bool.toNat_true, Nat.one_mul] at hv
    omega
theorem rlessF_snd {xs ys : List UInt64} (h : valL ys ≤ valL xs) : (rlessF xs ys).2 = 0 := by
  have hc : ¬ cmpR xs ys < 0 := by
    rw [cmpR_val, if_neg (by omega)]
    split <;> omega
  unfold rlessF
  rw [if_neg hc]

/-! bits -/

theorem W64_pow (k : Nat) : W64 ^ k = 2 ^ (64 * k) := by
  rw [show W64 = 2 ^ 64 from rfl, ← Nat.pow_mul]
theorem bit_step (x j : Nat) : x % 2 ^ (j + 1) = x % 2 ^ j + (x.testBit j).toNat * 2 ^ j := by
  rw [Nat.pow_succ, Nat.mod_mul]
  rw [Nat.testBit_eq_decide_div_mod_eq]
  have h : x / 2 ^ j % 2 < 2 := Nat.mod_lt _ (by decide)
  rcases (by omega : x / 2 ^ j % 2 = 0 ∨ x / 2 ^ j % 2 = 1) with h1 | h1
  · rw [h1]; simp
  · rw [h1]; simp
theorem eLow_in (e : List UInt64) (k : Nat) (hk : eLow e (64 * k) = valAt e k) : ∀ j, j ≤ 64 → eLow e (64 * k + j) = valAt e k + (atF e k).toNat % 2 ^ j * 2 ^ (64 * k)
  | 0, _ => by rw [Nat.add_zero, hk, Nat.pow_zero, Nat.mod_one, Nat.zero_mul, Nat.add_zero]
  | j + 1, h => by
    rw [show 64 * k + (j + 1) = (64 * k + j) + 1 from rfl]
    simp only [eLow]
    rw [eLow_in e k hk j (by omega), bit_step, Nat.add_mul]
    have hb : bitAt e (64 * k + j) = (atF e k).toNat.testBit j := by
      unfold bitAt atF
      rw [show (64 * k + j) / 64 = k by omega, show (64 * k + j) % 64 = j by omega]
    rw [hb, Nat.add_assoc, show 2 ^ (64 * k + j) = 2 ^ j * 2 ^ (64 * k) by rw [Nat.pow_add, Nat.mul_comm], Nat.mul_assoc]
theorem eLow_val (e : List UInt64) : ∀ k, eLow e (64 * k) = valAt e k
  | 0 => rfl
  | k + 1 => by
    rw [show 64 * (k + 1) = 64 * k + 64 by omega, eLow_in e k (eLow_val e k) 64 (Nat.le_refl _)]
    simp only [valAt]
    rw [W64_pow, Nat.mod_eq_of_lt (UInt64.toNat_lt _)]
theorem eLow_valL (e : List UInt64) : eLow e (64 * e.length) = valL e := eLow_val e _
theorem v_powL {a : Fp} (ha : a.ok) (e : List UInt64) : (powF a e).v = a.v ^ valL e := by rw [v_pow ha, eLow_valL]

/-! the first six limbs -/

theorem valAt_congr {a b : List UInt64} : ∀ {k : Nat}, (∀ j, j < k → atF a j = atF b j) → valAt a k = valAt b k
  | 0, _ => rfl
  | k + 1, h => by
    simp only [valAt]
    rw [valAt_congr (k := k) fun j hj => h j (by omega), h k (by omega)]
theorem ofL_nat (l : List UInt64) : (ofL l).nat = valAt l 6 := by
  rw [← list_val]
  refine valAt_congr fun j hj => ?_
  match j, hj with
  | 0, _ => rfl
  | 1, _ => rfl
  | 2, _ => rfl
  | 3, _ => rfl
  | 4, _ => rfl
  | 5, _ => rfl
theorem ofL_val {l : List UInt64} (h : l.length ≤ 6) : (ofL l).nat = valL l := by rw [ofL_nat, valAt_out l h]

end Go.Proofs.Ytchlamfdofpolaa
