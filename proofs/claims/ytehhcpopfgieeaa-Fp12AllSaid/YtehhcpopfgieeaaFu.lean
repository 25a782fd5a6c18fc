/- The document's Rest: what is left of a number by a modulus, bit by bit. -/
import Derived.Test.YtehhcpopfgieeaaEE
import Derived.Test.YtehhcpopfgieeaaMk
import Derived.Test.YtehhcpopfgieeaaFC
set_option linter.unusedSimpArgs false
set_option linter.unusedVariables false
namespace Go.Proofs.Ytehhcpopfgieeaa
open Go.RowKit

/-! what it comes to -/

theorem cutF_idem (xs : List UInt64) : cutF (cutF xs) = cutF xs := by
  have h1 := cutN_top xs xs.length
  have h2 := cutF_length xs
  unfold cutF at h2 ⊢
  generalize hn : cutN xs xs.length = n at *
  have h3 : cutN (xs.take n) (xs.take n).length = n := by
    rw [h2]
    cases n with
    | zero => rfl
    | succ k =>
      unfold cutN
      rw [atF_take xs (Nat.lt_succ_self k), if_neg (by simpa using h1 (Nat.succ_pos k))]
  rw [h3, List.take_take, Nat.min_self]

def Normal (xs : List UInt64) : Prop := cutF xs = xs
theorem normal_sum (xs ys : List UInt64) : Normal (sumF xs ys) := cutF_idem _
theorem normal_less {xs ys : List UInt64} : Normal (rlessF xs ys).1 := by
  unfold rlessF
  split
  · rfl
  · exact cutF_idem _
theorem normal_len {xs : List UInt64} (h : Normal xs) {k : Nat} (hk : valL xs < W64 ^ k) : xs.length ≤ k := by
  rcases Nat.lt_or_ge k xs.length with h1 | h1
  · have h2 := cut_lower xs (by rw [h]; omega)
    rw [h] at h2
    have h3 : W64 ^ k ≤ W64 ^ (xs.length - 1) := Nat.pow_le_pow_right (by decide) (by omega)
    omega
  · exact h1
theorem valL_lt (xs : List UInt64) : valL xs < W64 ^ xs.length := valAt_lt _ _
theorem valL_one : valL [1] = 1 := by decide +kernel

def downF (m s : List UInt64) : List UInt64 := match decide (cmpR s m ≥ 0) with | true => (rlessF s m).1 | false => s
theorem downF_yes {m s : List UInt64} (h : decide (cmpR s m ≥ 0) = true) : downF m s = (rlessF s m).1 := by unfold downF; rw [h]
theorem downF_no {m s : List UInt64} (h : decide (cmpR s m ≥ 0) = false) : downF m s = s := by unfold downF; rw [h]
def restStep (m : List UInt64) (b : Bool) (r : List UInt64) : List UInt64 :=
  match b with
  | true => downF m (sumF (sumF r r) [1])
  | false => downF m (sumF r r)
def restAt (a m : List UInt64) : Nat → List UInt64 → List UInt64
  | 0, r => r
  | n + 1, r => restAt a m n (restStep m (bitAt a n) r)
def restF (a m : List UInt64) : List UInt64 × Int := match ((cutF m).length : Int) == 0 with
  | true => ([], 7)
  | false => (cutF (restAt a (cutF m) (64 * a.length) []), 0)

def RI (m r : List UInt64) : Prop := Normal r ∧ valL r < valL m
theorem cmp_ge (xs ys : List UInt64) : decide (cmpR xs ys ≥ 0) = decide (valL ys ≤ valL xs) := by
  rw [cmpR_val]
  refine decide_eq_decide.2 ?_
  split
  · omega
  · split <;> omega
theorem down (m s : List UInt64) (hs : Normal s) (h : valL s < 2 * valL m) : RI m (downF m s) ∧ valL (downF m s) = valL s % valL m := by
  have hd := cmp_ge s m
  by_cases hc : valL m ≤ valL s
  · rw [decide_eq_true hc] at hd
    have h1 := rlessF_val hc
    rw [downF_yes hd]
    refine ⟨⟨normal_less, by omega⟩, ?_⟩
    rw [← h1, Nat.add_mod_right, Nat.mod_eq_of_lt (by omega)]
  · rw [decide_eq_false hc] at hd
    rw [downF_no hd]
    exact ⟨⟨hs, by omega⟩, (Nat.mod_eq_of_lt (by omega)).symm⟩
theorem restStep_spec {m r : List UInt64} (h : RI m r) (b : Bool) : RI m (restStep m b r) ∧ valL (restStep m b r) = (2 * valL r + b.toNat) % valL m := by
  obtain ⟨h1, h2⟩ := h
  cases b with
  | true =>
    have e : valL (sumF (sumF r r) [1]) = 2 * valL r + 1 := by rw [sumF_val, sumF_val, valL_one]; omega
    have := down m (sumF (sumF r r) [1]) (normal_sum _ _) (by omega)
    rw [e] at this
    exact this
  | false =>
    have e : valL (sumF r r) = 2 * valL r := by rw [sumF_val]; omega
    have := down m (sumF r r) (normal_sum _ _) (by omega)
    rw [e] at this
    exact this
theorem restAt_spec {a m : List UInt64} : ∀ {n : Nat} {r : List UInt64}, RI m r → RI m (restAt a m n r) ∧ valL (restAt a m n r) = (valL r * 2 ^ n + eLow a n) % valL m
  | 0, r, h => ⟨h, by simp only [restAt, eLow, Nat.pow_zero, Nat.mul_one, Nat.add_zero]; exact (Nat.mod_eq_of_lt h.2).symm⟩
  | n + 1, r, h => by
    obtain ⟨h1, h2⟩ := restStep_spec h (bitAt a n)
    obtain ⟨h3, h4⟩ := restAt_spec (a := a) (n := n) h1
    refine ⟨h3, ?_⟩
    simp only [restAt, eLow]
    rw [h4, h2, Nat.add_mod, Nat.mod_mul_mod, ← Nat.add_mod, Nat.add_mul]
    refine congrArg (fun z => z % valL m) ?_
    rw [Nat.pow_succ, Nat.mul_comm 2 (valL r), Nat.mul_comm (2 ^ n) 2, Nat.mul_assoc, Nat.add_assoc, Nat.add_comm (eLow a n)]
theorem cut_zero {m : List UInt64} (h : valL m = 0) : (cutF m).length = 0 := by
  rcases Nat.eq_zero_or_pos (cutF m).length with h1 | h1
  · exact h1
  · have := cut_lower m h1
    have h2 : 0 < W64 ^ ((cutF m).length - 1) := Nat.pow_pos (by decide)
    omega
theorem cut_pos {m : List UInt64} (h : 0 < valL m) : (cutF m).length ≠ 0 := fun h1 => by
  have := cut_upper m
  rw [h1, Nat.pow_zero] at this
  omega
theorem restF_val {a m : List UInt64} (h : 0 < valL m) : Normal (restF a m).1 ∧ valL (restF a m).1 = valL a % valL m ∧ (restF a m).2 = 0 := by
  have h0 : (((cutF m).length : Int) == 0) = false := by
    have := cut_pos h
    simp only [beq_eq_false_iff_ne, ne_eq]
    omega
  have hz : valL ([] : List UInt64) = 0 := rfl
  have hi : RI (cutF m) [] := ⟨rfl, by rw [valL_cut, hz]; exact h⟩
  obtain ⟨h1, h2⟩ := restAt_spec (a := a) (n := 64 * a.length) hi
  unfold restF
  rw [h0]
  refine ⟨cutF_idem _, ?_, rfl⟩
  show valL (cutF _) = _
  rw [valL_cut, h2, valL_cut, hz, Nat.zero_mul, Nat.zero_add, eLow_valL]

/-! the walk -/

theorem okW {xs : List UInt64} (h : xs.length < 1125899906842624) : 0 + xs.length ≤ xs.length ∧ xs.length < 1125899906842624 ∧ True ∧ True := ⟨by omega, h, trivial, trivial⟩
abbrev little (xs : List UInt64) : Prop := xs.length < 16777216
abbrev aLm : Arg (List UInt64) := aL.such little
abbrev iLm : Inp (List UInt64) := iL.such little
abbrev RestOk (a m : List UInt64) : Type := { q : Nat × List UInt64 // q.1 ≤ 64 * a.length ∧ RI m q.2 ∧ restAt a m q.1 q.2 = restAt a m (64 * a.length) [] }

end Go.Proofs.Ytehhcpopfgieeaa
