/- Multiples by doubling, and the curves over the base field and over its pairs. -/
import Derived.Test.YtchlamfdofpolaaRb
import Derived.Test.YtchlamfdofpolaaVb
import Derived.Test.YtchlamfdofpolaaMk
import Derived.Test.YtchlamfdofpolaaQa
set_option linter.unusedSimpArgs false
set_option linter.unusedVariables false
namespace Go.Proofs.Ytchlamfdofpolaa

/-- From the top bit down: twice, and one more. -/
def dblG {α : Type} (tw pl : α → α) (e : List UInt64) : Nat → α → α
  | 0, x => x
  | n + 1, x => dblG tw pl e n (match bitAt e n with | true => pl (tw x) | false => tw x)
theorem dblG_pt {α K : Type} [Fld K] [Crv K] (R : α → Pt K → Prop) {tw pl : α → α} {p : Pt K} (hp : p.on) (h1 : ∀ {o : α} {q : Pt K}, q.on → R o q → R (tw o) (q.add q)) (h2 : ∀ {o : α} {q : Pt K}, q.on → R o q → R (pl o) (q.add p)) (e : List UInt64) :
    ∀ (n : Nat) {o : α} {q : Pt K}, q.on → R o q → R (dblG tw pl e n o) ((q.mul (2 ^ n)).add (p.mul (eLow e n)))
  | 0, o, q, hq, h => by
    show R o ((q.mul 1).add (p.mul 0))
    rw [mul_one_pt, mul_zero_pt, add_inf]
    exact h
  | n + 1, o, q, hq, h => by
    have e2 : (2 : Nat) ^ (n + 1) = 2 ^ n + 2 ^ n := by rw [Nat.pow_succ]; omega
    have hqq := add_on hq hq
    simp only [dblG]
    cases hb : bitAt e n with
    | true =>
      have ih := dblG_pt R hp h1 h2 e n (add_on hqq hp) (h2 hqq (h1 hq h))
      have el : eLow e (n + 1) = 2 ^ n + eLow e n := by simp only [eLow, hb, Bool.toNat_true, Nat.one_mul]; exact Nat.add_comm _ _
      rw [add_mul_pt hqq hp, add_mul_pt hq hq, ← mul_add_pt hq, ← e2, add_assoc_pt (mul_on hq _) (mul_on hp _) (mul_on hp _), ← mul_add_pt hp, ← el] at ih
      exact ih
    | false =>
      have ih := dblG_pt R hp h1 h2 e n hqq (h1 hq h)
      have el : eLow e (n + 1) = eLow e n := by simp only [eLow, hb, Bool.toNat_false, Nat.zero_mul, Nat.add_zero]
      rw [add_mul_pt hq hq, ← mul_add_pt hq, ← e2, ← el] at ih
      exact ih
theorem dblG_all {α K : Type} [Fld K] [Crv K] (R : α → Pt K → Prop) {tw pl : α → α} {p : Pt K} (hp : p.on) (h1 : ∀ {o : α} {q : Pt K}, q.on → R o q → R (tw o) (q.add q)) (h2 : ∀ {o : α} {q : Pt K}, q.on → R o q → R (pl o) (q.add p)) (e : List UInt64) {o : α} (h : R o .inf) :
    R (dblG tw pl e (64 * e.length) o) (p.mul (valL e)) := by
  have := dblG_pt R hp h1 h2 e (64 * e.length) (q := .inf) trivial h
  rw [mul_inf_pt, inf_add, eLow_valL] at this
  exact this

/-! ## the two curves -/
theorem V1.four_cube : ∀ x : V1, x * x * x + 4 ≠ 0 := fun x h => by
  have hx : x ≠ 0 := fun e => by
    rw [e] at h
    have h4 : (4 : V1) = 0 := by grind
    have := congrArg V1.nat h4
    exact absurd this (by decide +kernel)
  have h1 : x ^ 3 = -4 := by grind
  have h2 : (-4 : V1) ^ ((pN - 1) / 3) = 1 := by
    rw [← h1, ← pow_mul', Nat.mul_comm, third]
    exact V1.fermat hx
  have h3 := congrArg V1.nat h2
  have h4 : (-4 : V1).nat = pN - 4 := by decide +kernel
  rw [V1.nat_pow, h4, V1.nat_one, ← mpow_eq pN 381 _ _ (by decide +kernel)] at h3
  exact absurd h3 (by decide +kernel)
instance crv1 : Crv V1 where
  b := 4
  two := two_ne
  no := V1.four_cube
def bb2 : V2 := ⟨4, 4⟩
theorem bb2_norm : bb2.norm = 32 := by
  rw [V2.norm_eq]
  show (4 : V1) * 4 + 4 * 4 = 32
  grind
theorem V2.two_ne : (2 : V2) ≠ 0 := fun e => Go.Proofs.Ytchlamfdofpolaa.two_ne (by
  have := congrArg Qd.a e
  exact this)
theorem V2.four_cube : ∀ x : V2, x * x * x + bb2 ≠ 0 := fun x h => by
  have h1 : x * x * x = -bb2 := by grind
  have h2 : x.norm * x.norm * x.norm = 32 := by
    rw [← Qd.norm_mul, ← Qd.norm_mul, h1, ← bb2_norm, V2.norm_eq, V2.norm_eq]
    show -bb2.a * -bb2.a + -bb2.b * -bb2.b = _
    grind
  have hx : x.norm ≠ 0 := fun e => by
    rw [e] at h2
    have h4 : (32 : V1) = 0 := h2.symm.trans (CR.mul_zero _)
    have := congrArg V1.nat h4
    exact absurd this (by decide +kernel)
  have h3 : (32 : V1) ^ ((pN - 1) / 3) = 1 := by
    have e : (32 : V1) = x.norm ^ 3 := by rw [← h2]; grind
    rw [e, ← pow_mul', Nat.mul_comm, third]
    exact V1.fermat hx
  have h5 := congrArg V1.nat h3
  have h4 : (32 : V1).nat = 32 := by decide +kernel
  rw [V1.nat_pow, h4, V1.nat_one, ← mpow_eq pN 381 _ _ (by decide +kernel)] at h5
  exact absurd h5 (by decide +kernel)
instance crv2 : Crv V2 where
  b := bb2
  two := V2.two_ne
  no := V2.four_cube

/-! ## numbers of the base field, by the names of pairs -/
theorem add_ok1 {a b : Fp} (ha : a.ok) (hb : b.ok) : (addF a b).ok := add_ok' ha hb
theorem sub_ok1 {a b : Fp} (ha : a.ok) (hb : b.ok) : (subF a b).ok := sub_ok' ha hb
theorem neg_ok1 {a : Fp} (ha : a.ok) : (negF a).ok := neg_ok' ha
theorem mul_ok1 {a b : Fp} (ha : a.ok) (hb : b.ok) : (mulF a b).ok := mul_ok' ha
theorem half_ok1 {a b : Fp} (ha : a.ok) (hb : b.ok) : (halfF a b).ok := half_ok' ha
theorem whole_ok1 {a : Fp} (ha : a.ok) : (wholeF a).ok := whole_ok' ha
theorem low_ok1 {a : Fp} (ha : a.ok) : (lowF a).ok := low_ok' ha
theorem zero_ok1 : zeroFp.ok := zero_ok'
theorem one_ok1 : oneFp.ok := one_ok'
theorem v_add1 {a b : Fp} (ha : a.ok) (hb : b.ok) : (addF a b).v = a.v + b.v := v_add ha hb
theorem v_sub1 {a b : Fp} (ha : a.ok) (hb : b.ok) : (subF a b).v = a.v - b.v := v_sub ha hb
theorem v_neg1 {a : Fp} (ha : a.ok) : (negF a).v = -a.v := v_neg ha
theorem v_mul1 {a b : Fp} (ha : a.ok) (hb : b.ok) : (mulF a b).v = a.v * b.v := v_mul ha hb
theorem v_half1 {a b : Fp} (ha : a.ok) (hb : b.ok) : (halfF a b).v = ri * (a.v * b.v) := v_half ha hb
theorem v_whole1 {a : Fp} (ha : a.ok) : (wholeF a).v = rv * a.v := v_whole ha
theorem v_low1 {a : Fp} (ha : a.ok) : (lowF a).v = ri * a.v := v_low ha
theorem v_zero1 : zeroFp.v = 0 := v_zero
theorem v_one1 : oneFp.v = 1 := v_one
theorem inv_v1 {a : Fp} (ha : a.ok) : (a.v = 0 → (invF a).2 = 7) ∧ (a.v ≠ 0 → (invF a).2 = 0 ∧ (invF a).1.ok ∧ (invF a).1.v = Fld.inv a.v) := inv_v ha
theorem inv_v2' {a : Fp2} (ha : a.ok) : (a.v = 0 → (invF2 a).2 = 7) ∧ (a.v ≠ 0 → (invF2 a).2 = 0 ∧ (invF2 a).1.ok ∧ (invF2 a).1.v = Fld.inv a.v) := ⟨fun h => congrArg Prod.snd ((inv_v2 ha).1 h), (inv_v2 ha).2⟩
theorem eq_v1 {a b : Fp} (ha : a.ok) (hb : b.ok) : fpEq a b = true ↔ a.v = b.v := fpEq_v ha hb
theorem may1_iff (a : Fp) : mayF a = true ↔ a.ok := mayF_ok a

end Go.Proofs.Ytchlamfdofpolaa
