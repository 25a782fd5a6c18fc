/- The base field's plain law, part g: roots; the statements on squares and on the field. -/
import Derived.Test.YtfkmooldindfjaaMf
set_option linter.unusedSimpArgs false
set_option linter.unusedVariables false
namespace Go.Proofs.Ytfkmooldindfjaa

theorem rootG_eq (pF : Fp → List UInt64 → Fp) (hF : Fp → Fp) (m a : Fp) : rootG pF hF m a = pF a (hF (hF ⟨m.l0 + 1, m.l1, m.l2, m.l3, m.l4, m.l5⟩)).list := rfl
/-- The exponent of a root. -/
def rootX : Fp := halvedF (halvedF ⟨pLimbs.l0 + 1, pLimbs.l1, pLimbs.l2, pLimbs.l3, pLimbs.l4, pLimbs.l5⟩)
theorem rootX_eq : rootX = halvedF (halvedF ⟨pLimbs.l0 + 1, pLimbs.l1, pLimbs.l2, pLimbs.l3, pLimbs.l4, pLimbs.l5⟩) := rfl
theorem rootF_eq (a : Fp) : rootF a = rootG powF halvedF pLimbs a := rfl
theorem root_pow (a : Fp) : rootF a = powF a rootX.list := by rw [rootF_eq, rootG_eq, rootX_eq]
theorem rootE : eLow rootX.list (64 * 6) = (pN + 1) / 4 := by decide +kernel

theorem list_len (a : Fp) : a.list.length = 6 := rfl
theorem root_ok' {a : Fp} (ha : a.ok) : (rootF a).ok := by
  rw [root_pow]
  exact pow_ok' ha _
theorem v_root {a : Fp} (ha : a.ok) : (rootF a).v = a.v ^ ((pN + 1) / 4) := by
  rw [root_pow, v_pow ha, list_len, rootE]

theorem sqrtG_no {nF : Fp → Fp} {mF : Fp → Fp → Fp} {gF : Fp → Bool} {x a : Fp} (h : fpEq (mF x x) a = false) : sqrtG nF mF gF x a = (zeroFp, false) := by unfold sqrtG; rw [h]; rfl
theorem sqrtG_great {nF : Fp → Fp} {mF : Fp → Fp → Fp} {gF : Fp → Bool} {x a : Fp} (h : fpEq (mF x x) a = true) (h2 : gF x = true) : sqrtG nF mF gF x a = (nF x, true) := by unfold sqrtG; rw [h, h2]; rfl
theorem sqrtG_low {nF : Fp → Fp} {mF : Fp → Fp → Fp} {gF : Fp → Bool} {x a : Fp} (h : fpEq (mF x x) a = true) (h2 : gF x = false) : sqrtG nF mF gF x a = (x, true) := by unfold sqrtG; rw [h, h2]; rfl
theorem sqrtF_eq (a : Fp) : sqrtF a = sqrtG negF mulF greatF (rootF a) a := rfl

theorem half_exp : (pN + 1) / 4 + (pN + 1) / 4 = 1 + (pN - 1) / 2 := by decide +kernel
theorem half_exp2 : (pN - 1) / 2 + (pN - 1) / 2 = pN - 1 := by decide +kernel
theorem half_odd : (pN - 1) / 2 = 2 * ((pN - 3) / 4) + 1 := by decide +kernel

/-- 1, or -1, or 0. -/
def V1.chi (a : V1) : V1 := a ^ ((pN - 1) / 2)

theorem root_sq (a : V1) : a ^ ((pN + 1) / 4) * a ^ ((pN + 1) / 4) = a * a.chi := by
  rw [← pow_add', half_exp, pow_add', pow_one']
  rfl
theorem chi_sq {a : V1} (h : a ≠ 0) : a.chi * a.chi = 1 := by
  unfold V1.chi
  rw [← pow_add', half_exp2]
  exact V1.fermat h
theorem chi_cases {a : V1} (h : a ≠ 0) : a.chi = 1 ∨ a.chi = -1 := sq_eq' (by rw [chi_sq h]; grind)
theorem chi_mul (a b : V1) : (a * b).chi = a.chi * b.chi := mul_pow' a b _
theorem neg_one_sq : (-1 : V1) * -1 = 1 := by grind
theorem chi_neg_one : (-1 : V1).chi = -1 := by
  unfold V1.chi
  rw [half_odd, pow_add', pow_mul', pow_one', pow_succ' _ 1, pow_one', neg_one_sq, one_pow']
  grind
theorem chi_neg (a : V1) : (-a).chi = - a.chi := by
  rw [show -a = -1 * a by grind, chi_mul, chi_neg_one]
  grind
theorem one_ne_neg : (1 : V1) ≠ -1 := fun e => by
  have := congrArg V1.nat e
  rw [V1.nat_one] at this
  have h2 : (-1 : V1).nat = (pN - 1 % pN) % pN := rfl
  rw [h2, V1.one_mod] at this
  have h3 := one_lt_p
  rw [Nat.mod_eq_of_lt (by omega)] at this
  have h4 := two_lt
  omega
theorem chi_zero : (0 : V1).chi = 0 := zero_pow' _ (by decide +kernel)

/-- Which numbers are squares. -/
theorem sq_iff (a : V1) : (∃ y : V1, y * y = a) ↔ a * a.chi = a := by
  constructor
  · rintro ⟨y, rfl⟩
    by_cases h : y = 0
    · subst h; grind
    · rw [chi_mul, chi_sq h]; grind
  · intro h
    exact ⟨a ^ ((pN + 1) / 4), by rw [root_sq, h]⟩

theorem p_odd : pN = 2 * hN + 1 := by decide +kernel

theorem great_neg {a : Fp} (ha : a.ok) (h : a.v ≠ 0) : greatF (negF a) = !greatF a := by
  have h0 : a.nat ≠ 0 := by
    have := V1.ne_zero h
    rwa [Fp.v_nat ha] at this
  have h1 : a.nat < pN := ha
  have h2 := p_odd
  rw [greatF_nat, greatF_nat, negF_nat ha, Nat.mod_eq_of_lt (by omega)]
  by_cases h3 : hN < a.nat
  · rw [decide_eq_true h3, decide_eq_false (by omega)]; rfl
  · rw [decide_eq_false h3, decide_eq_true (by omega)]; rfl

theorem great_zero : greatF zeroFp = false := by rw [greatF_nat, zero_nat]; exact decide_eq_false (by omega)

theorem sqrtG_law {nF : Fp → Fp} {mF : Fp → Fp → Fp} {gF : Fp → Bool} {x a : Fp} (hr : x.ok) (ha : a.ok) (hm : (mF x x).v = a.v * a.v.chi) (hm2 : (mF x x).v = x.v * x.v) (hmo : (mF x x).ok)
    (hn : (nF x).ok) (hnv : (nF x).v = - x.v) (hz : gF zeroFp = false) (hg : x.v ≠ 0 → gF (nF x) = !gF x) :
    ((∃ y : V1, y * y = a.v) → (sqrtG nF mF gF x a).2 = true ∧ (sqrtG nF mF gF x a).1.ok ∧ (sqrtG nF mF gF x a).1.v * (sqrtG nF mF gF x a).1.v = a.v ∧ gF (sqrtG nF mF gF x a).1 = false) ∧
    ((¬ ∃ y : V1, y * y = a.v) → (sqrtG nF mF gF x a) = (zeroFp, false)) := by
  constructor
  · intro h
    have h1 := (sq_iff _).1 h
    have e : fpEq (mF x x) a = true := (fpEq_v hmo ha).2 (by rw [hm, h1])
    have hrr : x.v * x.v = a.v := by rw [← hm2, hm, h1]
    cases hg' : gF x with
    | true =>
      rw [sqrtG_great e hg']
      have hne : x.v ≠ 0 := fun e0 => by
        rw [(v_eq_zero hr).1 e0, hz] at hg'
        cases hg'
      refine ⟨rfl, hn, ?_, ?_⟩
      · show (nF x).v * (nF x).v = a.v
        rw [hnv]; grind
      · show gF (nF x) = false
        rw [hg hne, hg']; rfl
    | false =>
      rw [sqrtG_low e hg']
      exact ⟨rfl, hr, hrr, hg'⟩
  · intro h
    have e : fpEq (mF x x) a = false := by
      cases he : fpEq (mF x x) a with
      | false => rfl
      | true => exact absurd ((sq_iff _).2 (by rw [← hm]; exact (fpEq_v hmo ha).1 he)) h
    rw [sqrtG_no e]

/-- What fp.Sqrt tells. -/
theorem sqrt_law {a : Fp} (ha : a.ok) :
    ((∃ y : V1, y * y = a.v) → (sqrtF a).2 = true ∧ (sqrtF a).1.ok ∧ (sqrtF a).1.v * (sqrtF a).1.v = a.v ∧ greatF (sqrtF a).1 = false) ∧
    ((¬ ∃ y : V1, y * y = a.v) → (sqrtF a) = (zeroFp, false)) := by
  have hr := root_ok' ha
  rw [sqrtF_eq]
  refine sqrtG_law hr ha ?_ (v_mul hr hr) (mul_ok' hr) (neg_ok' hr) (v_neg hr) great_zero (great_neg hr)
  rw [v_mul hr hr, v_root ha, root_sq]

theorem sq_neg {a : V1} (h : a ≠ 0) : (∃ y : V1, y * y = -a) ↔ ¬ ∃ y : V1, y * y = a := by
  rw [sq_iff, sq_iff, chi_neg]
  rcases chi_cases h with e | e <;> rw [e]
  · constructor
    · intro h1 h2
      have : (1 + 1) * a = 0 := by grind
      rcases mul_eq_zero' this with h3 | h3
      · exact one_ne_neg (by grind)
      · exact h h3
    · intro h1; exact absurd (by grind) h1
  · constructor
    · intro h1 h2
      have : (1 + 1) * a = 0 := by grind
      rcases mul_eq_zero' this with h3 | h3
      · exact one_ne_neg (by grind)
      · exact h h3
    · intro h1; grind

theorem ofF_ok (n : UInt64) : (ofF n).ok := by
  unfold Fp.ok
  rw [of_nat]
  exact Nat.lt_trans n.toNat_lt (by decide +kernel)
theorem v_of (n : UInt64) : (ofF n).v = V1.of n.toNat := by unfold Fp.v; rw [of_nat]
theorem ofF_zero : ofF 0 = zeroFp := rfl

theorem mayPF_ok (a : Fp) : mayPF a = true ↔ a.ok := by rw [mayPF_nat]; exact decide_eq_true_iff
theorem mayF_ok (a : Fp) : mayF a = true ↔ a.ok := by rw [mayF_nat]; exact decide_eq_true_iff

theorem bool_eq {a b : Bool} (h : a = true ↔ b = true) : a = b := Bool.eq_iff_iff.2 h

theorem sqrt_snd {a : Fp} (ha : a.ok) : (sqrtF a).2 = true ↔ ∃ y : V1, y * y = a.v := by
  obtain ⟨h1, h2⟩ := sqrt_law ha
  constructor
  · intro h
    apply Classical.byContradiction
    intro hn
    rw [h2 hn] at h
    cases h
  · intro h; exact (h1 h).1

theorem squares_law (a : Fp) : sqG mayPF ofF sqrtF mulF greatF negF a = true := by
  unfold sqG
  cases hm : mayPF a with
  | false => rfl
  | true =>
    have ha := (mayPF_ok a).1 hm
    have hmo : (mulF a a).ok := mul_ok' ha
    obtain ⟨h1, _⟩ := sqrt_law hmo
    obtain ⟨s1, s2, s3, s4⟩ := h1 ⟨a.v, (v_mul ha ha).symm⟩
    have hn := neg_ok' ha
    rw [v_mul ha ha] at s3
    have e1 : (fpEq (sqrtF (mulF a a)).1 a || fpEq (sqrtF (mulF a a)).1 (negF a)) = true := by
      rcases sq_eq' s3 with h | h
      · rw [(fpEq_v s2 ha).2 h]; rfl
      · rw [(fpEq_v s2 hn).2 (by rw [v_neg ha, h]), Bool.or_true]
    rw [s1, e1, s4]
    simp only [Bool.not_true, Bool.false_or, Bool.not_false, Bool.true_and, ofF_zero]
    by_cases h0 : a.v = 0
    · have e0 : a = zeroFp := (v_eq_zero ha).1 h0
      rw [(fpEq_v ha zero_ok').2 (by rw [h0, v_zero])]
      have q1 : (sqrtF a).2 = true := (sqrt_snd ha).2 ⟨0, by rw [h0]; grind⟩
      have q2 : (sqrtF (negF a)).2 = true := (sqrt_snd hn).2 ⟨0, by rw [v_neg ha, h0]; grind⟩
      rw [q1, q2]
      rfl
    · have e0 : fpEq a zeroFp = false := by
        cases he : fpEq a zeroFp with
        | false => rfl
        | true => exact absurd (by rw [← v_zero]; exact (fpEq_v ha zero_ok').1 he) h0
      have q : (sqrtF (negF a)).2 = !(sqrtF a).2 := bool_eq (by
        rw [sqrt_snd hn, v_neg ha, sq_neg h0]
        constructor
        · intro h
          cases hs : (sqrtF a).2 with
          | false => rfl
          | true => exact absurd ((sqrt_snd ha).1 hs) h
        · intro h h2
          rw [(sqrt_snd ha).2 h2] at h
          cases h)
      rw [e0, q, great_neg ha h0]
      cases (sqrtF a).2 <;> cases greatF a <;> rfl

theorem begun_law : begG invF ofF sqrtF mulF mayF = true := by
  unfold begG
  have h2 : (ofF 2).nat ≠ 0 := by rw [of_nat]; decide
  obtain ⟨i1, i2, i3⟩ := (inv_law (ofF_ok 2)).2 h2
  have e1 : fpEq (mulF (invF (ofF 2)).1 (ofF 2)) (ofF 1) = true := by
    rw [fpEq_nat, mulF_nat i2, Nat.mul_comm, i3, of_nat]
    rfl
  have hs : ∃ y : V1, y * y = (ofF 4).v := ⟨(ofF 2).v, V1.ext (by rw [v_of, v_of]; decide +kernel)⟩
  obtain ⟨s1, s2, s3, s4⟩ := (sqrt_law (ofF_ok 4)).1 hs
  have e2 : fpEq (sqrtF (ofF 4)).1 (ofF 2) = true := by
    refine (fpEq_v s2 (ofF_ok 2)).2 ?_
    have hq : (sqrtF (ofF 4)).1.v * (sqrtF (ofF 4)).1.v = (ofF 2).v * (ofF 2).v := by
      rw [s3]
      exact V1.ext (by rw [v_of, v_of]; decide +kernel)
    rcases sq_eq' hq with h | h
    · exact h
    · exfalso
      have hg : greatF (negF (ofF 2)) = true := by
        rw [great_neg (ofF_ok 2) (fun e => h2 (by have := congrArg V1.nat e; rwa [Fp.v_nat (ofF_ok 2), V1.nat_zero] at this)), greatF_nat, of_nat]
        decide +kernel
      have : (sqrtF (ofF 4)).1 = negF (ofF 2) := Fp.v_inj s2 (neg_ok' (ofF_ok 2)) (by rw [v_neg (ofF_ok 2), h])
      rw [this, hg] at s4
      cases s4
  have e3 : fpEq (ofF 3) ⟨3, 0, 0, 0, 0, 0⟩ = true := rfl
  rw [i1, e1, s1, e2, e3, (mayF_ok _).2 i2]
  rfl

end Go.Proofs.Ytfkmooldindfjaa
