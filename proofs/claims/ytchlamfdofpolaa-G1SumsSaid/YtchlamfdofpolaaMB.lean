/- Parts Mf, Mg, Mh, joined. -/
import Derived.Test.YtchlamfdofpolaaMA
import Derived.Test.YtchlamfdofpolaaLa
import Derived.Test.YtchlamfdofpolaaFC
/- The base field's plain law, part f: its values are a field. -/
set_option linter.unusedSimpArgs false
set_option linter.unusedVariables false
namespace Go.Proofs.Ytchlamfdofpolaa

instance : NeZero pN := ⟨by decide +kernel⟩

/-- Numbers modulo P. -/
def V1 : Type := Fin pN
def V1.of (n : Nat) : V1 := Fin.ofNat pN n
def V1.nat (a : V1) : Nat := Fin.val a

theorem V1.nat_lt (a : V1) : a.nat < pN := Fin.isLt a
theorem V1.nat_of (n : Nat) : (V1.of n).nat = n % pN := rfl
theorem V1.ext {a b : V1} (h : a.nat = b.nat) : a = b := Fin.eq_of_val_eq h
theorem V1.of_nat (a : V1) : V1.of a.nat = a := V1.ext (by rw [V1.nat_of, Nat.mod_eq_of_lt a.nat_lt])

def V1.add (a b : V1) : V1 := V1.of (a.nat + b.nat)
def V1.mul (a b : V1) : V1 := V1.of (a.nat * b.nat)
def V1.neg (a : V1) : V1 := V1.of (pN - a.nat)
def V1.sub (a b : V1) : V1 := V1.of (a.nat + (pN - b.nat))
def V1.inv (a : V1) : V1 := V1.of (mpow 381 a.nat (pN - 2) pN)

theorem one_lt_p : 1 < pN := by decide +kernel

theorem V1.one_mod : 1 % pN = 1 := Nat.mod_eq_of_lt one_lt_p

instance : CR V1 where
  add := V1.add
  mul := V1.mul
  neg := V1.neg
  sub := V1.sub
  z := V1.of 0
  o := V1.of 1
  add_zero := fun a => V1.ext (by show (a.nat + 0 % pN) % pN = a.nat; rw [Nat.zero_mod, Nat.add_zero, Nat.mod_eq_of_lt a.nat_lt])
  add_comm := fun a b => V1.ext (by show (a.nat + b.nat) % pN = (b.nat + a.nat) % pN; rw [Nat.add_comm])
  add_assoc := fun a b c => V1.ext (by show ((a.nat + b.nat) % pN + c.nat) % pN = (a.nat + (b.nat + c.nat) % pN) % pN; rw [Nat.mod_add_mod, Nat.add_mod_mod, Nat.add_assoc])
  mul_assoc := fun a b c => V1.ext (by show ((a.nat * b.nat) % pN * c.nat) % pN = (a.nat * ((b.nat * c.nat) % pN)) % pN; rw [Nat.mod_mul_mod, Nat.mul_mod_mod, Nat.mul_assoc])
  mul_comm := fun a b => V1.ext (by show (a.nat * b.nat) % pN = (b.nat * a.nat) % pN; rw [Nat.mul_comm])
  mul_one := fun a => V1.ext (by show (a.nat * (1 % pN)) % pN = a.nat; rw [V1.one_mod, Nat.mul_one, Nat.mod_eq_of_lt a.nat_lt])
  dist := fun a b c => V1.ext (by
    show (a.nat * ((b.nat + c.nat) % pN)) % pN = ((a.nat * b.nat) % pN + (a.nat * c.nat) % pN) % pN
    rw [Nat.mul_mod_mod, ← Nat.add_mod, Nat.mul_add])
  neg_add := fun a => V1.ext (by
    show ((pN - a.nat) % pN + a.nat) % pN = 0 % pN
    rw [Nat.mod_add_mod, Nat.sub_add_cancel (Nat.le_of_lt a.nat_lt), Nat.mod_self, Nat.zero_mod])
  sub_eq := fun a b => V1.ext (by
    show (a.nat + (pN - b.nat)) % pN = (a.nat + (pN - b.nat) % pN) % pN
    rw [Nat.add_mod_mod])

theorem V1.nat_add (a b : V1) : (a + b).nat = (a.nat + b.nat) % pN := rfl
theorem V1.nat_mul (a b : V1) : (a * b).nat = (a.nat * b.nat) % pN := rfl
theorem V1.nat_zero : (0 : V1).nat = 0 := Nat.zero_mod _
theorem V1.nat_one : (1 : V1).nat = 1 := V1.one_mod
theorem V1.nat_pow (a : V1) : ∀ n : Nat, (a ^ n).nat = a.nat ^ n % pN
  | 0 => rfl
  | n + 1 => by rw [pow_succ', V1.nat_mul, V1.nat_pow a n, Nat.mod_mul_mod, Nat.pow_succ]
theorem V1.ne_zero {a : V1} (h : a ≠ 0) : a.nat ≠ 0 := fun e => h (V1.ext (by rw [e, V1.nat_zero]))

theorem V1.fermat {a : V1} (h : a ≠ 0) : a ^ (pN - 1) = 1 := V1.ext (by
  rw [V1.nat_pow, V1.nat_one]
  exact Go.Proofs.Ytchlamfdofpolaa.fermat prime_p (not_dvd a.nat_lt (V1.ne_zero h)))

theorem V1.inv_eq (a : V1) : V1.inv a = a ^ (pN - 2) := V1.ext (by
  show mpow 381 a.nat (pN - 2) pN % pN = _
  rw [mpow_eq pN 381 _ _ (by decide +kernel), V1.nat_pow, Nat.mod_mod])

instance : Fld V1 where
  inv := V1.inv
  mul_inv := fun a h => by
    rw [V1.inv_eq]
    have := V1.fermat h
    rw [show pN - 1 = (pN - 2) + 1 by have := two_lt; omega, pow_succ'] at this
    rw [CR.mul_comm]
    exact this
  one_ne := fun e => by
    have := congrArg V1.nat e
    rw [V1.nat_one, V1.nat_zero] at this
    omega

/-- A number that is below the modulus. -/
def Fp.ok (a : Fp) : Prop := a.nat < pN
def Fp.v (a : Fp) : V1 := V1.of a.nat

theorem Fp.v_nat {a : Fp} (h : a.ok) : a.v.nat = a.nat := Nat.mod_eq_of_lt h
theorem Fp.v_inj {a b : Fp} (ha : a.ok) (hb : b.ok) (h : a.v = b.v) : a = b := Fp.nat_inj (by rw [← Fp.v_nat ha, ← Fp.v_nat hb, h])
theorem fpEq_v {a b : Fp} (ha : a.ok) (hb : b.ok) : fpEq a b = true ↔ a.v = b.v := ⟨fun h => by rw [(fpEq_iff a b).1 h], fun h => (fpEq_iff a b).2 (Fp.v_inj ha hb h)⟩

theorem add_ok' {a b : Fp} (ha : a.ok) (hb : b.ok) : (addF a b).ok := addF_lt ha hb
theorem sub_ok' {a b : Fp} (ha : a.ok) (hb : b.ok) : (subF a b).ok := subF_lt ha hb
theorem mul_ok' {a b : Fp} (ha : a.ok) : (mulF a b).ok := mulF_lt ha
theorem zero_ok' : zeroFp.ok := by unfold Fp.ok; rw [zero_nat]; exact pN_pos
theorem one_ok' : oneFp.ok := by unfold Fp.ok; rw [one_nat]; exact one_lt_p
theorem neg_ok' {a : Fp} (ha : a.ok) : (negF a).ok := sub_ok' zero_ok' ha
theorem pow_ok' {a : Fp} (ha : a.ok) (e : List UInt64) : (powF a e).ok := by unfold Fp.ok; rw [powF_nat ha]; exact Nat.mod_lt _ pN_pos

theorem v_zero : zeroFp.v = 0 := V1.ext (by rw [Fp.v_nat zero_ok', zero_nat, V1.nat_zero])
theorem v_one : oneFp.v = 1 := V1.ext (by rw [Fp.v_nat one_ok', one_nat, V1.nat_one])
theorem v_add {a b : Fp} (ha : a.ok) (hb : b.ok) : (addF a b).v = a.v + b.v := V1.ext (by
  rw [Fp.v_nat (add_ok' ha hb), addF_nat ha hb, V1.nat_add, Fp.v_nat ha, Fp.v_nat hb])
theorem v_mul {a b : Fp} (ha : a.ok) (hb : b.ok) : (mulF a b).v = a.v * b.v := V1.ext (by
  rw [Fp.v_nat (mul_ok' ha), mulF_nat ha, V1.nat_mul, Fp.v_nat ha, Fp.v_nat hb])
theorem v_sub {a b : Fp} (ha : a.ok) (hb : b.ok) : (subF a b).v = a.v - b.v := V1.ext (by
  rw [Fp.v_nat (sub_ok' ha hb), subF_nat ha hb]
  show _ = (a.v.nat + (pN - b.v.nat)) % pN
  rw [Fp.v_nat ha, Fp.v_nat hb]
  congr 1
  have : b.nat < pN := hb
  omega)
theorem v_neg {a : Fp} (ha : a.ok) : (negF a).v = - a.v := by
  rw [show negF a = subF zeroFp a from rfl, v_sub zero_ok' ha, v_zero]
  grind
theorem v_pow {a : Fp} (ha : a.ok) (e : List UInt64) : (powF a e).v = a.v ^ eLow e (64 * e.length) := V1.ext (by
  rw [Fp.v_nat (pow_ok' ha e), powF_nat ha, V1.nat_pow, Fp.v_nat ha])

theorem v_eq_zero {a : Fp} (ha : a.ok) : a.v = 0 ↔ a = zeroFp := ⟨fun h => Fp.v_inj ha zero_ok' (by rw [h, v_zero]), fun h => by rw [h, v_zero]⟩

end Go.Proofs.Ytchlamfdofpolaa

/- The base field's plain law, part g: roots; the statements on squares and on the field. -/
set_option linter.unusedSimpArgs false
set_option linter.unusedVariables false
namespace Go.Proofs.Ytchlamfdofpolaa

theorem rootG_eq (pF : Fp → List UInt64 → Fp) (hF : Fp → Fp) (m a : Fp) : rootG pF hF m a = pF a (hF (hF ⟨m.l0 + 1, m.l1, m.l2, m.l3, m.l4, m.l5⟩)).list := rfl
/-- The exponent of a root. -/
def rootX : Fp := halvedF (halvedF ⟨pLimbs.l0 + 1, pLimbs.l1, pLimbs.l2, pLimbs.l3, pLimbs.l4, pLimbs.l5⟩)
theorem rootX_eq : rootX = halvedF (halvedF ⟨pLimbs.l0 + 1, pLimbs.l1, pLimbs.l2, pLimbs.l3, pLimbs.l4, pLimbs.l5⟩) := rfl
theorem rootF_eq (a : Fp) : rootF a = rootG powF halvedF pLimbs a := rfl
theorem root_pow (a : Fp) : rootF a = powF a rootX.list := by rw [rootF_eq, rootG_eq, rootX_eq]
theorem rootE : eLow rootX.list (64 * 6) = (pN + 1) / 4 := by decide +kernel

theorem list_len (a : Fp) : a.list.length = 6 := rfl
theorem root_ok' {a : Fp} (ha : a.ok) : (rootF a).ok := by
  rw [root_pow]
  exact pow_ok' ha _
theorem v_root {a : Fp} (ha : a.ok) : (rootF a).v = a.v ^ ((pN + 1) / 4) := by
  rw [root_pow, v_pow ha, list_len, rootE]

theorem sqrtG_no {nF : Fp → Fp} {mF : Fp → Fp → Fp} {gF : Fp → Bool} {x a : Fp} (h : fpEq (mF x x) a = false) : sqrtG nF mF gF x a = (zeroFp, false) := by unfold sqrtG; rw [h]; rfl
theorem sqrtG_great {nF : Fp → Fp} {mF : Fp → Fp → Fp} {gF : Fp → Bool} {x a : Fp} (h : fpEq (mF x x) a = true) (h2 : gF x = true) : sqrtG nF mF gF x a = (nF x, true) := by unfold sqrtG; rw [h, h2]; rfl
theorem sqrtG_low {nF : Fp → Fp} {mF : Fp → Fp → Fp} {gF : Fp → Bool} {x a : Fp} (h : fpEq (mF x x) a = true) (h2 : gF x = false) : sqrtG nF mF gF x a = (x, true) := by unfold sqrtG; rw [h, h2]; rfl
theorem sqrtF_eq (a : Fp) : sqrtF a = sqrtG negF mulF greatF (rootF a) a := rfl

theorem half_exp : (pN + 1) / 4 + (pN + 1) / 4 = 1 + (pN - 1) / 2 := by decide +kernel
theorem half_exp2 : (pN - 1) / 2 + (pN - 1) / 2 = pN - 1 := by decide +kernel
theorem half_odd : (pN - 1) / 2 = 2 * ((pN - 3) / 4) + 1 := by decide +kernel

/-- 1, or -1, or 0. -/
def V1.chi (a : V1) : V1 := a ^ ((pN - 1) / 2)

theorem root_sq (a : V1) : a ^ ((pN + 1) / 4) * a ^ ((pN + 1) / 4) = a * a.chi := by
  rw [← pow_add', half_exp, pow_add', pow_one']
  rfl
theorem chi_sq {a : V1} (h : a ≠ 0) : a.chi * a.chi = 1 := by
  unfold V1.chi
  rw [← pow_add', half_exp2]
  exact V1.fermat h
theorem chi_cases {a : V1} (h : a ≠ 0) : a.chi = 1 ∨ a.chi = -1 := sq_eq' (by rw [chi_sq h]; grind)
theorem chi_mul (a b : V1) : (a * b).chi = a.chi * b.chi := mul_pow' a b _
theorem neg_one_sq : (-1 : V1) * -1 = 1 := by grind
theorem chi_neg_one : (-1 : V1).chi = -1 := by
  unfold V1.chi
  rw [half_odd, pow_add', pow_mul', pow_one', pow_succ' _ 1, pow_one', neg_one_sq, one_pow']
  grind
theorem chi_neg (a : V1) : (-a).chi = - a.chi := by
  rw [show -a = -1 * a by grind, chi_mul, chi_neg_one]
  grind
theorem one_ne_neg : (1 : V1) ≠ -1 := fun e => by
  have := congrArg V1.nat e
  rw [V1.nat_one] at this
  have h2 : (-1 : V1).nat = (pN - 1 % pN) % pN := rfl
  rw [h2, V1.one_mod] at this
  have h3 := one_lt_p
  rw [Nat.mod_eq_of_lt (by omega)] at this
  have h4 := two_lt
  omega
theorem chi_zero : (0 : V1).chi = 0 := zero_pow' _ (by decide +kernel)

/-- Which numbers are squares. -/
theorem sq_iff (a : V1) : (∃ y : V1, y * y = a) ↔ a * a.chi = a := by
  constructor
  · rintro ⟨y, rfl⟩
    by_cases h : y = 0
    · subst h; grind
    · rw [chi_mul, chi_sq h]; grind
  · intro h
    exact ⟨a ^ ((pN + 1) / 4), by rw [root_sq, h]⟩

theorem p_odd : pN = 2 * hN + 1 := by decide +kernel

theorem great_neg {a : Fp} (ha : a.ok) (h : a.v ≠ 0) : greatF (negF a) = !greatF a := by
  have h0 : a.nat ≠ 0 := by
    have := V1.ne_zero h
    rwa [Fp.v_nat ha] at this
  have h1 : a.nat < pN := ha
  have h2 := p_odd
  rw [greatF_nat, greatF_nat, negF_nat ha, Nat.mod_eq_of_lt (by omega)]
  by_cases h3 : hN < a.nat
  · rw [decide_eq_true h3, decide_eq_false (by omega)]; rfl
  · rw [decide_eq_false h3, decide_eq_true (by omega)]; rfl

theorem great_zero : greatF zeroFp = false := by rw [greatF_nat, zero_nat]; exact decide_eq_false (by omega)

theorem sqrtG_law {nF : Fp → Fp} {mF : Fp → Fp → Fp} {gF : Fp → Bool} {x a : Fp} (hr : x.ok) (ha : a.ok) (hm : (mF x x).v = a.v * a.v.chi) (hm2 : (mF x x).v = x.v * x.v) (hmo : (mF x x).ok)
    (hn : (nF x).ok) (hnv : (nF x).v = - x.v) (hz : gF zeroFp = false) (hg : x.v ≠ 0 → gF (nF x) = !gF x) :
    ((∃ y : V1, y * y = a.v) → (sqrtG nF mF gF x a).2 = true ∧ (sqrtG nF mF gF x a).1.ok ∧ (sqrtG nF mF gF x a).1.v * (sqrtG nF mF gF x a).1.v = a.v ∧ gF (sqrtG nF mF gF x a).1 = false) ∧
    ((¬ ∃ y : V1, y * y = a.v) → (sqrtG nF mF gF x a) = (zeroFp, false)) := by
  constructor
  · intro h
    have h1 := (sq_iff _).1 h
    have e : fpEq (mF x x) a = true := (fpEq_v hmo ha).2 (by rw [hm, h1])
    have hrr : x.v * x.v = a.v := by rw [← hm2, hm, h1]
    cases hg' : gF x with
    | true =>
      rw [sqrtG_great e hg']
      have hne : x.v ≠ 0 := fun e0 => by
        rw [(v_eq_zero hr).1 e0, hz] at hg'
        cases hg'
      refine ⟨rfl, hn, ?_, ?_⟩
      · show (nF x).v * (nF x).v = a.v
        rw [hnv]; grind
      · show gF (nF x) = false
        rw [hg hne, hg']; rfl
    | false =>
      rw [sqrtG_low e hg']
      exact ⟨rfl, hr, hrr, hg'⟩
  · intro h
    have e : fpEq (mF x x) a = false := by
      cases he : fpEq (mF x x) a with
      | false => rfl
      | true => exact absurd ((sq_iff _).2 (by rw [← hm]; exact (fpEq_v hmo ha).1 he)) h
    rw [sqrtG_no e]

/-- What fp.Sqrt tells. -/
theorem sqrt_law {a : Fp} (ha : a.ok) :
    ((∃ y : V1, y * y = a.v) → (sqrtF a).2 = true ∧ (sqrtF a).1.ok ∧ (sqrtF a).1.v * (sqrtF a).1.v = a.v ∧ greatF (sqrtF a).1 = false) ∧
    ((¬ ∃ y : V1, y * y = a.v) → (sqrtF a) = (zeroFp, false)) := by
  have hr := root_ok' ha
  rw [sqrtF_eq]
  refine sqrtG_law hr ha ?_ (v_mul hr hr) (mul_ok' hr) (neg_ok' hr) (v_neg hr) great_zero (great_neg hr)
  rw [v_mul hr hr, v_root ha, root_sq]

theorem sq_neg {a : V1} (h : a ≠ 0) : (∃ y : V1, y * y = -a) ↔ ¬ ∃ y : V1, y * y = a := by
  rw [sq_iff, sq_iff, chi_neg]
  rcases chi_cases h with e | e <;> rw [e]
  · constructor
    · intro h1 h2
      have : (1 + 1) * a = 0 := by grind
      rcases mul_eq_zero' this with h3 | h3
      · exact one_ne_neg (by grind)
      · exact h h3
    · intro h1; exact absurd (by grind) h1
  · constructor
    · intro h1 h2
      have : (1 + 1) * a = 0 := by grind
      rcases mul_eq_zero' this with h3 | h3
      · exact one_ne_neg (by grind)
      · exact h h3
    · intro h1; grind

theorem ofF_ok (n : UInt64) : (ofF n).ok := by
  unfold Fp.ok
  rw [of_nat]
  exact Nat.lt_trans n.toNat_lt (by decide +kernel)
theorem v_of (n : UInt64) : (ofF n).v = V1.of n.toNat := by unfold Fp.v; rw [of_nat]
theorem ofF_zero : ofF 0 = zeroFp := rfl

theorem mayPF_ok (a : Fp) : mayPF a = true ↔ a.ok := by rw [mayPF_nat]; exact decide_eq_true_iff
theorem mayF_ok (a : Fp) : mayF a = true ↔ a.ok := by rw [mayF_nat]; exact decide_eq_true_iff

theorem bool_eq {a b : Bool} (h : a = true ↔ b = true) : a = b := Bool.eq_iff_iff.2 h

theorem sqrt_snd {a : Fp} (ha : a.ok) : (sqrtF a).2 = true ↔ ∃ y : V1, y * y = a.v := by
  obtain ⟨h1, h2⟩ := sqrt_law ha
  constructor
  · intro h
    apply Classical.byContradiction
    intro hn
    rw [h2 hn] at h
    cases h
  · intro h; exact (h1 h).1

end Go.Proofs.Ytchlamfdofpolaa

/- The document's numbers are the program's: sums, products, powers, roots. -/
set_option linter.unusedSimpArgs false
set_option linter.unusedVariables false
namespace Go.Proofs.Ytchlamfdofpolaa

theorem borrow_iff (a b : Fp) : (subT a b).2 = decide (a.nat < b.nat) := by
  have h := subT_nat a b
  have h1 := (subT a b).1.nat_lt
  cases e : (subT a b).2 with
  | true =>
    rw [e, Bool.toNat_true, Nat.mul_one] at h
    exact (decide_eq_true (by omega)).symm
  | false =>
    rw [e, Bool.toNat_false, Nat.mul_zero] at h
    exact (decide_eq_false (by omega)).symm

theorem lessF_eq (a : Fp) (o : UInt64) : lessF a o = match decide (o < b2u (decide (a.nat < pN))) with | true => a | false => (subT a pLimbs).1 := by
  have h := borrow_iff a pLimbs
  rw [pLimbs_nat] at h
  unfold lessF
  rw [lessT_eq, h]
  rfl

theorem montE7_eq (t : L7) (h6 : t.t6.toNat ≤ 1) : montE7 pLimbs t = lessF t.low t.t6 := by
  rw [lessF_eq]
  unfold montE7
  rw [belowF_nat, pLimbs_nat]
  by_cases h : t.t6.toNat = 0
  · have e0 : t.t6 = 0 := UInt64.toNat.inj h
    rw [e0]
    by_cases hl : t.low.nat < pN
    · rw [decide_eq_true hl]; rfl
    · rw [decide_eq_false hl]; rfl
  · have e0 : t.t6 = 1 := UInt64.toNat.inj (by rw [UInt64.toNat_one]; omega)
    rw [e0]
    by_cases hl : t.low.nat < pN
    · rw [decide_eq_true hl]; rfl
    · rw [decide_eq_false hl]; rfl

theorem macL_comm (x y t c : UInt64) : macL x y t c = macL y x t c := by unfold macL; rw [UInt64.mul_comm]
theorem mulHi_comm (x y : UInt64) : mulHi x y = mulHi y x := UInt64.toNat.inj (by rw [mulHi_nat, mulHi_nat, Nat.mul_comm])
theorem macH_comm (x y t c : UInt64) : macH x y t c = macH y x t c := by unfold macH; rw [UInt64.mul_comm, mulHi_comm]

theorem montB_eq (t0 t1 t2 t3 t4 t5 top : UInt64) (more : Bool) : montB pLimbs pInv t0 t1 t2 t3 t4 t5 top more = roundB t0 t1 t2 t3 t4 t5 top more := by
  unfold montB roundB
  simp only [rmL_eq, rmH_eq, addC_comm t0]

theorem montR_eq (ai : UInt64) (b : Fp) (t : L7) : montR pLimbs pInv ai b t = roundF b ai t := by
  unfold montR roundF
  rw [montB_eq]
  simp only [rmL_eq, rmH_eq, macL_comm ai, macH_comm ai]

theorem montInv_eq : montInv pLimbs.l0 = pInv := by decide +kernel

theorem mont6_eq (a b : Fp) : mont6 a b pLimbs = halfT b a := by
  unfold mont6 mont5 mont4 mont3 mont2 mont1
  rw [montInv_eq]
  simp only [montR_eq]
  rfl

theorem halfT_top {a b : Fp} (ha : a.nat < pN) : (halfT a b).t6.toNat ≤ 1 := by
  obtain ⟨k, h1, h2⟩ := halfT_nat a b
  rw [L7.nat_low] at h1 h2
  have hlt := (halfT a b).low.nat_lt
  have hpr : 2 * pN < rN := by decide +kernel
  rcases Nat.lt_or_ge (halfT a b).t6.toNat 1 with h | h
  · omega
  · have : rN * 1 ≤ rN * (halfT a b).t6.toNat := Nat.mul_le_mul_left _ h
    rcases Nat.lt_or_ge (halfT a b).t6.toNat 2 with h3 | h3
    · omega
    · have : rN * 2 ≤ rN * (halfT a b).t6.toNat := Nat.mul_le_mul_left _ h3
      omega

theorem montF_half (a : Fp) {b : Fp} (hb : b.ok) : montF a b pLimbs = halfF b a := by
  unfold montF halfF
  rw [mont6_eq]
  exact montE7_eq _ (halfT_top hb)

theorem sq_ok : sqLimbs.ok := by unfold Fp.ok; rw [sq_nat]; exact Nat.mod_lt _ pN_pos

theorem mulPF_nat (a : Fp) {b : Fp} (hb : b.ok) : (mulPF a b).nat = a.nat * b.nat % pN := by
  unfold mulPF
  rw [montF_half a hb, montF_half _ sq_ok]
  obtain ⟨h1, h2⟩ := halfF_nat (b := a) hb
  obtain ⟨h3, h4⟩ := halfF_nat (b := halfF b a) sq_ok
  rw [← Nat.mod_eq_of_lt h3]
  refine r_cancel ?_
  rw [h4, sq_nat, Nat.mod_mul_mod]
  have e : rN * rN * (halfF b a).nat = (halfF b a).nat * rN * rN := by rw [Nat.mul_comm, Nat.mul_assoc]
  rw [e, ← Nat.mod_mul_mod, h2, Nat.mod_mul_mod, Nat.mul_comm a.nat]

theorem mulPF_eq {a b : Fp} (ha : a.ok) (hb : b.ok) : mulPF a b = mulF a b := Fp.nat_inj (by rw [mulPF_nat a hb, mulF_nat ha])

theorem subPF_eq (a b : Fp) : subPF a b = subF a b := by
  unfold subPF minusF subF
  cases (subT a b).2 <;> rfl

theorem negPF_eq (a : Fp) : negPF a = negF a := subPF_eq zeroFp a

theorem addPF_eq (a b : Fp) : addPF a b = addF a b := by
  unfold addPF plusF addF
  rw [lessF_eq, belowF_nat, pLimbs_nat]
  cases (addT a b).2
  · by_cases hl : (addT a b).1.nat < pN
    · rw [decide_eq_true hl]; rfl
    · rw [decide_eq_false hl]; rfl
  · by_cases hl : (addT a b).1.nat < pN
    · rw [decide_eq_true hl]; rfl
    · rw [decide_eq_false hl]; rfl

theorem mulPF_ok (a : Fp) {b : Fp} (hb : b.ok) : (mulPF a b).ok := by unfold Fp.ok; rw [mulPF_nat a hb]; exact Nat.mod_lt _ pN_pos

theorem powPAt_nat {a : Fp} (ha : a.ok) (e : List UInt64) : ∀ (n : Nat) (o : Fp), o.ok → (powPAt a e n o).nat = o.nat ^ 2 ^ n * a.nat ^ eLow e n % pN
  | 0, o, ho => by
    simp only [powPAt, eLow, Nat.pow_zero, Nat.pow_one, Nat.mul_one]
    exact (Nat.mod_eq_of_lt ho).symm
  | n + 1, o, ho => by
    have h1 := mulPF_nat o ho
    simp only [powPAt]
    cases hb : bitAt e n with
    | true =>
      simp only []
      rw [powPAt_nat ha e n _ (mulPF_ok _ ha), mulPF_nat _ ha, h1]
      simp only [eLow, hb, Bool.toNat_true, Nat.one_mul]
      rw [Nat.mod_mul_mod, ← Nat.mod_mul_mod, ← Nat.pow_mod, Nat.mod_mul_mod]
      refine congrArg (fun z => z % pN) ?_
      rw [Nat.mul_pow, ← Nat.pow_two, ← Nat.pow_mul, show 2 ^ (n + 1) = 2 * 2 ^ n by rw [Nat.pow_succ, Nat.mul_comm], Nat.pow_add a.nat, Nat.mul_assoc, Nat.mul_comm (a.nat ^ 2 ^ n)]
    | false =>
      simp only []
      rw [powPAt_nat ha e n _ (mulPF_ok _ ho), h1]
      simp only [eLow, hb, Bool.toNat_false, Nat.zero_mul, Nat.add_zero]
      rw [← Nat.mod_mul_mod, ← Nat.pow_mod, Nat.mod_mul_mod]
      refine congrArg (fun z => z % pN) ?_
      rw [← Nat.pow_two, ← Nat.pow_mul, show 2 ^ (n + 1) = 2 * 2 ^ n by rw [Nat.pow_succ, Nat.mul_comm]]

theorem one_of : ofF 1 = oneFp := rfl
theorem powPF_eq {a : Fp} (ha : a.ok) (e : List UInt64) : powPF a e = powF a e := Fp.nat_inj (by
  unfold powPF
  rw [powF_nat ha, one_of, powPAt_nat ha e _ _ one_ok', one_nat, Nat.one_pow, Nat.one_mul])

theorem pm2_eq : pm2 = [pLimbs.l0 - 2, pLimbs.l1, pLimbs.l2, pLimbs.l3, pLimbs.l4, pLimbs.l5] := by decide +kernel
theorem invPF_eq {a : Fp} (ha : a.ok) : invPF a = invF a := by
  unfold invPF invF
  rw [powPF_eq ha, pm2_eq]
  rfl

theorem rootL_eq : rootL = rootX.list := by decide +kernel

/-! ## comparisons by value -/

def valL (xs : List UInt64) : Nat := valAt xs xs.length

theorem atF_take (xs : List UInt64) {n i : Nat} (h : i < n) : atF (xs.take n) i = atF xs i := by
  unfold atF
  rw [List.getD_eq_getElem?_getD, List.getD_eq_getElem?_getD, List.getElem?_take_of_lt h]
theorem valAt_take (xs : List UInt64) {n : Nat} : ∀ {k : Nat}, k ≤ n → valAt (xs.take n) k = valAt xs k
  | 0, _ => rfl
  | k + 1, h => by
    simp only [valAt]
    rw [valAt_take xs (k := k) (by omega), atF_take xs (by omega)]
theorem val_cutN (xs : List UInt64) : ∀ n, valAt xs (cutN xs n) = valAt xs n
  | 0 => rfl
  | n + 1 => by
    unfold cutN
    split
    · rename_i h
      rw [val_cutN xs n]
      simp only [valAt, h]
      simp
    · rfl
theorem cutF_length (xs : List UInt64) : (cutF xs).length = cutN xs xs.length := by
  unfold cutF
  rw [List.length_take]
  have := cutN_le xs xs.length
  omega
theorem valL_cut (xs : List UInt64) : valL (cutF xs) = valL xs := by
  unfold valL
  rw [cutF_length]
  unfold cutF
  rw [valAt_take xs (Nat.le_refl _), val_cutN]
theorem cutN_top (xs : List UInt64) : ∀ n, 0 < cutN xs n → atF xs (cutN xs n - 1) ≠ 0
  | 0, h => by simp [cutN] at h
  | n + 1, h => by
    unfold cutN at h ⊢
    split
    · rename_i h0
      rw [if_pos h0] at h
      exact cutN_top xs n h
    · rename_i h0
      simpa using h0
theorem cut_lower (xs : List UInt64) (h : 0 < (cutF xs).length) : W64 ^ ((cutF xs).length - 1) ≤ valL xs := by
  rw [cutF_length] at h ⊢
  have h1 := cutN_top xs xs.length h
  have h2 := val_cutN xs xs.length
  unfold valL
  rw [← h2]
  obtain ⟨k, hk⟩ : ∃ k, cutN xs xs.length = k + 1 := ⟨cutN xs xs.length - 1, by omega⟩
  rw [hk] at h1 ⊢
  simp only [Nat.add_sub_cancel] at h1 ⊢
  simp only [valAt]
  have h3 : 1 ≤ (atF xs k).toNat := by
    rcases Nat.eq_zero_or_pos (atF xs k).toNat with h | h
    · exact absurd (UInt64.toNat.inj h) h1
    · exact h
  calc W64 ^ k = 1 * W64 ^ k := (Nat.one_mul _).symm
    _ ≤ (atF xs k).toNat * W64 ^ k := Nat.mul_le_mul_right _ h3
    _ ≤ _ := Nat.le_add_left _ _
theorem cut_upper (xs : List UInt64) : valL xs < W64 ^ (cutF xs).length := by
  rw [← valL_cut]
  exact valAt_lt _ _
theorem len_lt_val {xs ys : List UInt64} (h : (cutF xs).length < (cutF ys).length) : valL xs < valL ys := by
  have h1 := cut_upper xs
  have h2 := cut_lower ys (by omega)
  have h3 : W64 ^ (cutF xs).length ≤ W64 ^ ((cutF ys).length - 1) := Nat.pow_le_pow_right (by decide) (by omega)
  omega

theorem cmpR_val (xs ys : List UInt64) : cmpR xs ys = if valL xs < valL ys then -1 else if valL xs > valL ys then 1 else 0 := by
  unfold cmpR
  by_cases h : (cutF xs).length = (cutF ys).length
  · rw [if_neg (by simp [h]), cmpAt_val]
    have e1 : valAt (cutF xs) (cutF xs).length = valL xs := valL_cut xs
    have e2 : valAt (cutF ys) (cutF xs).length = valL ys := by rw [h]; exact valL_cut ys
    rw [e1, e2]
  · rw [if_pos h]
    rcases Nat.lt_or_gt_of_ne h with h1 | h1
    · have := len_lt_val h1
      rw [if_pos h1, if_pos this]
    · have := len_lt_val h1
      rw [if_neg (by omega), if_neg (by omega), if_pos this]

theorem valL_list (a : Fp) : valL a.list = a.nat := list_val a
theorem half_val : valL (rhalfF pLimbs.list) = hN := by decide +kernel
theorem greatPF_eq (a : Fp) : greatPF a = greatF a := by
  rw [greatF_nat]
  unfold greatPF
  rw [cmpR_val, valL_list, half_val]
  refine decide_eq_decide.2 ?_
  split
  · omega
  · split <;> omega

theorem sqrtG_congr {nF nF' : Fp → Fp} {mF mF' : Fp → Fp → Fp} {gF gF' : Fp → Bool} {x a : Fp} (h1 : nF x = nF' x) (h2 : mF x x = mF' x x) (h3 : gF x = gF' x) : sqrtG nF mF gF x a = sqrtG nF' mF' gF' x a := by
  unfold sqrtG
  rw [h1, h2, h3]
theorem sqrtPF_eq {a : Fp} (ha : a.ok) : sqrtPF a = sqrtF a := by
  rw [sqrtF_eq]
  unfold sqrtPF
  rw [powPF_eq ha, rootL_eq, ← root_pow]
  exact sqrtG_congr (negPF_eq _) (mulPF_eq (root_ok' ha) (root_ok' ha)) (greatPF_eq _)

end Go.Proofs.Ytchlamfdofpolaa
