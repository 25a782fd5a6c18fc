/- The base field's plain law, part d: comparisons. -/
import Derived.Test.YtfkmooldindfjaaMc
import Derived.Test.YtfkmooldindfjaaNb
import Derived.Test.YtfkmooldindfjaaFh
set_option linter.unusedSimpArgs false
set_option linter.unusedVariables false
namespace Go.Proofs.Ytfkmooldindfjaa

/-- The value of the limbs below n. -/
def valAt (xs : List UInt64) : Nat → Nat
  | 0 => 0
  | n + 1 => valAt xs n + (atF xs n).toNat * W64 ^ n

theorem valAt_lt (xs : List UInt64) : ∀ n, valAt xs n < W64 ^ n
  | 0 => by simp [valAt]
  | n + 1 => by
    have ih := valAt_lt xs n
    have h := (atF xs n).toNat_lt
    have h1 : (atF xs n).toNat * W64 ^ n ≤ (W64 - 1) * W64 ^ n := Nat.mul_le_mul_right _ (by unfold W64; omega)
    have h2 : W64 ^ (n + 1) = (W64 - 1) * W64 ^ n + W64 ^ n := by
      rw [Nat.pow_succ, Nat.mul_comm, Nat.sub_mul, Nat.one_mul]
      have : W64 ^ n ≤ W64 * W64 ^ n := Nat.le_mul_of_pos_left _ (by unfold W64; omega)
      omega
    simp only [valAt]
    omega

theorem val_step {x y p q : Nat} {w a b : Nat} (hp : p < w) (hq : q < w) : a < b → p + a * w < q + b * w := by
  intro h
  have : (a + 1) * w ≤ b * w := Nat.mul_le_mul_right _ h
  rw [Nat.add_mul, Nat.one_mul] at this
  omega

theorem cmpAt_val (xs ys : List UInt64) : ∀ n, cmpAt xs ys n = if valAt xs n < valAt ys n then -1 else if valAt xs n > valAt ys n then 1 else 0
  | 0 => by simp [cmpAt, valAt]
  | n + 1 => by
    have ih := cmpAt_val xs ys n
    have h1 := valAt_lt xs n
    have h2 := valAt_lt ys n
    have e1 : valAt xs (n + 1) = valAt xs n + (atF xs n).toNat * W64 ^ n := rfl
    have e2 : valAt ys (n + 1) = valAt ys n + (atF ys n).toNat * W64 ^ n := rfl
    rw [e1, e2]
    show (if atF xs n < atF ys n then -1 else if atF xs n > atF ys n then 1 else cmpAt xs ys n) = _
    by_cases ha : atF xs n < atF ys n
    · have := UInt64.lt_iff_toNat_lt.1 ha
      have := val_step (x := 0) (y := 0) h1 h2 this
      rw [if_pos ha, if_pos this]
    · rw [if_neg ha]
      by_cases hb : atF xs n > atF ys n
      · have := UInt64.lt_iff_toNat_lt.1 hb
        have := val_step (x := 0) (y := 0) h2 h1 this
        rw [if_pos hb, if_neg (by omega), if_pos this]
      · rw [if_neg hb, ih]
        have e : (atF xs n).toNat = (atF ys n).toNat := by
          have h3 := mt UInt64.lt_iff_toNat_lt.2 ha
          have h4 := mt UInt64.lt_iff_toNat_lt.2 hb
          omega
        rw [e]
        simp only [Nat.add_lt_add_iff_right, gt_iff_lt]

theorem list_val (a : Fp) : valAt a.list 6 = a.nat := by
  simp only [valAt, atF, Fp.list, Fp.nat, List.getD_eq_getElem?_getD, List.getElem?_cons_zero, List.getElem?_cons_succ, Option.getD_some]
  generalize a.l0.toNat = x0
  generalize a.l1.toNat = x1
  generalize a.l2.toNat = x2
  generalize a.l3.toNat = x3
  generalize a.l4.toNat = x4
  generalize a.l5.toNat = x5
  simp only [Nat.pow_succ, Nat.pow_zero, Nat.one_mul, Nat.mul_one, Nat.mul_add, Nat.mul_assoc, Nat.mul_comm, Nat.mul_left_comm, Nat.zero_add]
  omega

theorem cmp_nat (a b : Fp) : cmpF a.list b.list = if a.nat < b.nat then -1 else if a.nat > b.nat then 1 else 0 := by
  have h : cmpF a.list b.list = cmpAt a.list b.list 6 := by
    unfold cmpF maxI
    rfl
  rw [h, cmpAt_val, list_val, list_val]

theorem mayF_nat (a : Fp) : mayF a = decide (a.nat < pN) := by
  unfold mayF
  rw [cmp_nat, pLimbs_nat]
  refine decide_eq_decide.2 ?_
  split
  · rename_i h; simp [h]
  · rename_i h
    simp only [h, iff_false]
    split <;> omega

def hN : Nat := pN / 2
theorem halved_nat : (halvedF pLimbs).nat = hN := by decide +kernel

theorem greatF_nat (a : Fp) : greatF a = decide (hN < a.nat) := by
  unfold greatF
  rw [cmp_nat, halved_nat]
  refine decide_eq_decide.2 ?_
  split
  · rename_i h; constructor <;> intro h' <;> omega
  · split
    · rename_i h h2; constructor <;> intro h' <;> omega
    · rename_i h h2; constructor <;> intro h' <;> omega

theorem u64_ne {x y : UInt64} : (x != y) = true ↔ x.toNat ≠ y.toNat := by
  simp only [bne_iff_ne, ne_eq]
  exact ⟨fun h e => h (UInt64.toNat.inj e), fun h e => h (by rw [e])⟩

theorem mayPF_nat (a : Fp) : mayPF a = decide (a.nat < pN) := by
  have key : ∀ m : Fp, belowF a m = decide (a.nat < m.nat) := by
    intro m
    have h0 := a.l0.toNat_lt
    have h1 := a.l1.toNat_lt
    have h2 := a.l2.toNat_lt
    have h3 := a.l3.toNat_lt
    have h4 := a.l4.toNat_lt
    have k0 := m.l0.toNat_lt
    have k1 := m.l1.toNat_lt
    have k2 := m.l2.toNat_lt
    have k3 := m.l3.toNat_lt
    have k4 := m.l4.toNat_lt
    have same : ∀ {x y : UInt64}, (x != y) = false → x.toNat = y.toNat := fun h => by
      simp only [bne_eq_false_iff_eq] at h
      rw [h]
    unfold belowF
    cases e5 : a.l5 != m.l5 with
    | true =>
      have := u64_ne.1 e5
      refine decide_eq_decide.2 ?_
      rw [UInt64.lt_iff_toNat_lt]
      unfold Fp.nat W64
      omega
    | false =>
      have e5 := same e5
      simp only []
      cases e4 : a.l4 != m.l4 with
      | true =>
        have := u64_ne.1 e4
        refine decide_eq_decide.2 ?_
        rw [UInt64.lt_iff_toNat_lt]
        unfold Fp.nat W64
        omega
      | false =>
        have e4 := same e4
        simp only []
        cases e3 : a.l3 != m.l3 with
        | true =>
          have := u64_ne.1 e3
          refine decide_eq_decide.2 ?_
          rw [UInt64.lt_iff_toNat_lt]
          unfold Fp.nat W64
          omega
        | false =>
          have e3 := same e3
          simp only []
          cases e2 : a.l2 != m.l2 with
          | true =>
            have := u64_ne.1 e2
            refine decide_eq_decide.2 ?_
            rw [UInt64.lt_iff_toNat_lt]
            unfold Fp.nat W64
            omega
          | false =>
            have e2 := same e2
            simp only []
            cases e1 : a.l1 != m.l1 with
            | true =>
              have := u64_ne.1 e1
              refine decide_eq_decide.2 ?_
              rw [UInt64.lt_iff_toNat_lt]
              unfold Fp.nat W64
              omega
            | false =>
              have e1 := same e1
              simp only []
              cases e0 : a.l0 != m.l0 with
              | true =>
                have := u64_ne.1 e0
                refine decide_eq_decide.2 ?_
                rw [UInt64.lt_iff_toNat_lt]
                unfold Fp.nat W64
                omega
              | false =>
                have e0 := same e0
                refine (decide_eq_false ?_).symm
                unfold Fp.nat W64
                omega
  rw [show mayPF a = belowF a pLimbs from rfl, key, pLimbs_nat]

theorem fpEq_nat (a b : Fp) : fpEq a b = decide (a.nat = b.nat) := by
  by_cases h : a = b
  · subst h; rw [(fpEq_iff a a).2 rfl]; simp
  · have h1 : fpEq a b = false := by
      cases e : fpEq a b with
      | true => exact absurd ((fpEq_iff a b).1 e) h
      | false => rfl
    rw [h1]
    exact (decide_eq_false fun e => h (Fp.nat_inj e)).symm

end Go.Proofs.Ytfkmooldindfjaa
