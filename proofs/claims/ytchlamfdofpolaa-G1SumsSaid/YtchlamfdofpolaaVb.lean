/- Pairs of numbers by value: the document's answers, and roots. -/
import Derived.Test.YtchlamfdofpolaaVa
set_option linter.unusedSimpArgs false
set_option linter.unusedVariables false
namespace Go.Proofs.Ytchlamfdofpolaa
open Go.RowKit

/-! the document's pairs are the program's -/
theorem add2R_G_eq (f : Fp → Fp → Fp) (a b : Fp2) : add2R_G f a b = ⟨f a.c0 b.c0, f a.c1 b.c1⟩ := rfl
theorem sub2R_G_eq (f : Fp → Fp → Fp) (a b : Fp2) : sub2R_G f a b = ⟨f a.c0 b.c0, f a.c1 b.c1⟩ := rfl
theorem mul2R_G_eq (f g h : Fp → Fp → Fp) (a b : Fp2) : mul2R_G f g h a b = ⟨f (g a.c0 b.c0) (g a.c1 b.c1), h (g a.c0 b.c1) (g a.c1 b.c0)⟩ := rfl
theorem conj2R_G_eq (f : Fp → Fp) (a : Fp2) : conj2R_G f a = ⟨a.c0, f a.c1⟩ := rfl
theorem neg2R_G_eq (f : Fp2 → Fp2 → Fp2) (a : Fp2) : neg2R_G f a = f zeroFp2 a := rfl
theorem one2R_G_eq (f : UInt64 → Fp) : one2R_G f = ⟨f 1, zeroFp⟩ := rfl
theorem xi2R_G_eq (f : UInt64 → Fp) : xi2R_G f = ⟨f 1, f 1⟩ := rfl
theorem add2R_eq (a b : Fp2) : add2R a b = addF2 a b := by
  unfold add2R
  rw [add2R_G_eq, addPF_eq, addPF_eq, addF2_eq]
theorem sub2R_eq (a b : Fp2) : sub2R a b = subF2 a b := by
  unfold sub2R
  rw [sub2R_G_eq, subPF_eq, subPF_eq, subF2_eq]
theorem neg2R_eq (a : Fp2) : neg2R a = negF2 a := by
  unfold neg2R
  rw [neg2R_G_eq, sub2R_eq, subF2_eq, negF2_eq]
  unfold negF
  rfl
theorem conj2R_eq (a : Fp2) : conj2R a = conjF2 a := by
  unfold conj2R
  rw [conj2R_G_eq, negPF_eq, conjF2_eq]
theorem one2R_eq : one2R = oneFp2 := by
  unfold one2R
  rw [one2R_G_eq, one_of]
  rfl
theorem xi2R_eq' : xi2R = ⟨oneFp, oneFp⟩ := by
  unfold xi2R
  rw [xi2R_G_eq, one_of]
theorem xi_ok2 : xi2R.ok := by rw [xi2R_eq']; exact ⟨one_ok', one_ok'⟩
theorem v_xi2 : xi2R.v = xi := by rw [xi2R_eq']; exact Qd.ext' v_one v_one
theorem mul2R_eq {a b : Fp2} (ha : a.ok) (hb : b.ok) : mul2R a b = mulF2 a b := by
  unfold mul2R
  rw [mul2R_G_eq, mulPF_eq ha.1 hb.1, mulPF_eq ha.2 hb.2, mulPF_eq ha.1 hb.2, mulPF_eq ha.2 hb.1, subPF_eq, addPF_eq]
  refine Fp2.v_inj (Fp2.mk_ok (sub_ok' (mul_ok' ha.1) (mul_ok' ha.2)) (add_ok' (mul_ok' ha.1) (mul_ok' ha.2))) (mul_ok2 ha hb) ?_
  rw [v_mul2 ha hb]
  refine Fp2.mk_v ?_ ?_
  · rw [V2.mul_a, v_sub (mul_ok' ha.1) (mul_ok' ha.2), v_mul ha.1 hb.1, v_mul ha.2 hb.2, Fp2.v_a, Fp2.v_a, Fp2.v_b, Fp2.v_b]
  · rw [V2.mul_b, v_add (mul_ok' ha.1) (mul_ok' ha.2), v_mul ha.1 hb.2, v_mul ha.2 hb.1, Fp2.v_a, Fp2.v_a, Fp2.v_b, Fp2.v_b]
/-- Which one of a pair and its opposite a pair is. -/
def great2V (a : Fp2) : Bool := match fpEq a.c1 zeroFp with
  | true => greatF a.c0
  | false => greatF a.c1
theorem great2R_G_eq (f : Fp → Bool) (a : Fp2) : great2R_G f a = match fpEq a.c1 zeroFp with | true => f a.c0 | false => f a.c1 := by
  unfold great2R_G
  generalize fpEq a.c1 _ = b
  cases b <;> rfl
theorem great2R_eqV (a : Fp2) : great2R a = great2V a := by
  have h : (greatPF : Fp → Bool) = greatF := funext greatPF_eq
  unfold great2R great2V
  rw [great2R_G_eq, h]
theorem inv2R_no {f0 : Fp2 → Fp2 → Fp2} {f1 : Fp2 → Fp2} {f2 : Fp → Fp × Int} {a : Fp2} (h : (f2 (f0 a (f1 a)).c0).2 = 7) : inv2R_G f0 f1 f2 a = (zeroFp2, 7) := by
  unfold inv2R_G
  rw [h]
  rfl
theorem inv2R_yes {f0 : Fp2 → Fp2 → Fp2} {f1 : Fp2 → Fp2} {f2 : Fp → Fp × Int} {a : Fp2} (h : (f2 (f0 a (f1 a)).c0).2 = 0) : inv2R_G f0 f1 f2 a = (f0 (f1 a) ⟨(f2 (f0 a (f1 a)).c0).1, zeroFp⟩, 0) := by
  unfold inv2R_G
  rw [h]
  rfl
theorem inv2R_eq {a : Fp2} (ha : a.ok) : inv2R a = invF2 a := by
  have hc := conj_ok2 ha
  have hn : (mul2R a (conj2R a)).c0 = normF2 a := by
    rw [conj2R_eq, mul2R_eq ha hc]
    refine Fp.v_inj (mul_ok2 ha hc).1 (norm_ok2 ha) ?_
    rw [v_norm2 ha, ← Fp2.v_a, v_mul2 ha hc, v_conj2 ha, Qd.mul_conj]
    rfl
  obtain ⟨h1, h2⟩ := inv_v (norm_ok2 ha)
  obtain ⟨k1, k2⟩ := inv_v2 ha
  rw [v_norm2 ha] at h1 h2
  by_cases h0 : a.v = 0
  · rw [k1 h0]
    unfold inv2R
    exact inv2R_no (by rw [hn, invPF_eq (norm_ok2 ha)]; exact h1 (by rw [h0]; exact V2.norm_zero))
  · obtain ⟨i1, i2, i3⟩ := h2 (Qd.norm_ne h0)
    obtain ⟨j1, j2, j3⟩ := k2 h0
    have e : inv2R a = (mul2R (conj2R a) ⟨(invF (normF2 a)).1, zeroFp⟩, 0) := by
      unfold inv2R
      rw [inv2R_yes (by rw [hn, invPF_eq (norm_ok2 ha)]; exact i1), hn, invPF_eq (norm_ok2 ha)]
    have hq : (⟨(invF (normF2 a)).1, zeroFp⟩ : Fp2).ok := Fp2.mk_ok i2 zero_ok'
    rw [e]
    refine Prod.ext ?_ j1.symm
    simp only []
    rw [conj2R_eq, mul2R_eq hc hq]
    refine Fp2.v_inj (mul_ok2 hc hq) j2 ?_
    rw [j3, v_mul2 hc hq, v_conj2 ha, V2.inv_eq h0, show (⟨(invF (normF2 a)).1, zeroFp⟩ : Fp2).v = Qd.of (Fld.inv a.v.norm) from Fp2.mk_v i3 v_zero]
    exact CR.mul_comm _ _

/-! which one of a pair and its opposite is Great -/
theorem great2_low {a : Fp2} (h : fpEq a.c1 zeroFp = true) : great2V a = greatF a.c0 := by
  unfold great2V
  rw [h]
theorem great2_high {a : Fp2} (h : fpEq a.c1 zeroFp = false) : great2V a = greatF a.c1 := by
  unfold great2V
  rw [h]
theorem fpEq_zero {a : Fp} (ha : a.ok) : fpEq a zeroFp = true ↔ a.v = 0 := by
  have := fpEq_v ha zero_ok'
  rw [v_zero] at this
  exact this
theorem fpEq_nonzero {a : Fp} (ha : a.ok) : fpEq a zeroFp = false ↔ a.v ≠ 0 := by
  rw [← Bool.not_eq_true, fpEq_zero ha]
theorem great_neg2 {a : Fp2} (ha : a.ok) (h : a.v ≠ 0) : great2V (negF2 a) = !great2V a := by
  have e0 : (negF2 a).c0 = negF a.c0 := by rw [negF2_eq]
  have e1 : (negF2 a).c1 = negF a.c1 := by rw [negF2_eq]
  by_cases h1 : a.c1.v = 0
  · have h0 : a.c0.v ≠ 0 := fun h0 => h (Qd.ext' h0 h1)
    rw [great2_low ((fpEq_zero ha.2).2 h1), great2_low (a := negF2 a) (by rw [e1, fpEq_zero (neg_ok' ha.2), v_neg ha.2, h1]; grind), e0, great_neg ha.1 h0]
  · rw [great2_high ((fpEq_nonzero ha.2).2 h1), great2_high (a := negF2 a) (by rw [e1, fpEq_nonzero (neg_ok' ha.2), v_neg ha.2]; grind), e1, great_neg ha.2 h1]
theorem great_zero2 : great2V zeroFp2 = false := by
  rw [great2_low (a := zeroFp2) rfl]
  exact great_zero

/-! roots -/
/-- A root of a pair, as it is told. -/
def RootOf (a : Fp2) (r : Fp2 × Bool) : Prop := ((∃ y : V2, y * y = a.v) ∧ r.2 = true ∧ r.1.ok ∧ r.1.v * r.1.v = a.v ∧ great2V r.1 = false) ∨ ((¬ ∃ y : V2, y * y = a.v) ∧ r = (zeroFp2, false))
theorem RootOf.eq {a : Fp2} {r s : Fp2 × Bool} (h : RootOf a r) (k : RootOf a s) : r = s := by
  rcases h with ⟨h0, h1, h2, h3, h4⟩ | ⟨h0, h1⟩
  · rcases k with ⟨k0, k1, k2, k3, k4⟩ | ⟨k0, _⟩
    · refine Prod.ext ?_ (h1.trans k1.symm)
      rcases sq_eq' (h3.trans k3.symm) with e | e
      · exact Fp2.v_inj h2 k2 e
      · by_cases hz : s.1.v = 0
        · exact Fp2.v_inj h2 k2 (by rw [e, hz]; grind)
        · exfalso
          have : r.1 = negF2 s.1 := Fp2.v_inj h2 (neg_ok2 k2) (by rw [e, v_neg2 k2])
          rw [this, great_neg2 k2 hz, k4] at h4
          cases h4
    · exact absurd h0 k0
  · rcases k with ⟨k0, _⟩ | ⟨_, k1⟩
    · exact absurd k0 h0
    · rw [h1, k1]
def finG (g : Fp2 → Bool) (n : Fp2 → Fp2) (z : Fp2) : Fp2 × Bool := match g z with | true => (n z, true) | false => (z, true)
theorem fin_root {a z : Fp2} (hz : z.ok) (h : z.v * z.v = a.v) : RootOf a (finG great2V negF2 z) := by
  refine .inl ⟨⟨z.v, h⟩, ?_⟩
  unfold finG
  cases hg : great2V z with
  | true =>
    have hne : z.v ≠ 0 := fun e => by
      rw [(v_eq_zero2 hz).1 e, great_zero2] at hg
      cases hg
    refine ⟨rfl, neg_ok2 hz, ?_, ?_⟩
    · show (negF2 z).v * (negF2 z).v = _
      rw [v_neg2 hz]
      grind
    · show great2V (negF2 z) = false
      rw [great_neg2 hz hne, hg]
      rfl
  | false => exact ⟨rfl, hz, h, hg⟩
/-- 1 by 2. -/
def i2 : V1 := Fld.inv 2
theorem two_i2 : (2 : V1) * i2 = 1 := mul_inv' two_ne
theorem half_of2 : (invF (ofF 2)).1.ok ∧ (invF (ofF 2)).1.v = i2 := by
  have e : (ofF 2).v = 2 := by rw [v_of]; exact V1.ext (by decide +kernel)
  obtain ⟨_, h1, h2⟩ := (inv_v (ofF_ok 2)).2 (by rw [e]; exact two_ne)
  exact ⟨h1, by rw [h2, e]; rfl⟩
theorem sqrt_ok' {a : Fp} (ha : a.ok) : (sqrtF a).1.ok := by
  obtain ⟨h1, h2⟩ := sqrt_law ha
  by_cases h : ∃ y : V1, y * y = a.v
  · exact (h1 h).2.1
  · rw [h2 h]; exact zero_ok'
theorem sqrt_v {a : Fp} (ha : a.ok) (h : (sqrtF a).2 = true) : (sqrtF a).1.v * (sqrtF a).1.v = a.v := ((sqrt_law ha).1 ((sqrt_snd ha).1 h)).2.2.1
theorem sqrt_neg_of {a : Fp} (ha : a.ok) (h : (sqrtF a).2 = false) : a.v ≠ 0 ∧ (sqrtF (negF a)).2 = true := by
  have h1 : ¬ ∃ y : V1, y * y = a.v := fun e => by rw [(sqrt_snd ha).2 e] at h; cases h
  have h0 : a.v ≠ 0 := fun e => h1 ⟨0, by rw [e]; grind⟩
  refine ⟨h0, (sqrt_snd (neg_ok' ha)).2 ?_⟩
  rw [v_neg ha]
  exact (sq_neg h0).2 h1
/-- Of two numbers whose product is the opposite of a square that is not 0, just one is a square. -/
theorem sq_other {x y w : V1} (hw : w ≠ 0) (h : x * y = -(w * w)) : (¬ ∃ z : V1, z * z = x) → ∃ z : V1, z * z = y := fun hn => by
  have hx : x ≠ 0 := fun e => by
    have : w * w = 0 := by grind
    exact mul_ne' hw hw this
  obtain ⟨z, hz⟩ := (sq_neg hx).2 hn
  have hz0 : z ≠ 0 := fun e => hx (by grind)
  have hi := mul_inv' hz0
  refine ⟨w * Fld.inv z, ?_⟩
  have e1 : x = -(z * z) := by grind
  have e2 : z * z * y = w * w := by grind
  have : y = w * w * (Fld.inv z * Fld.inv z) := by
    have : y = (z * Fld.inv z) * (z * Fld.inv z) * y := by rw [hi]; grind
    grind
  grind
theorem root_norm {a : V2} (h : ∃ y : V2, y * y = a) : ∃ y : V1, y * y = a.norm := by
  obtain ⟨y, rfl⟩ := h
  exact ⟨y.norm, (Qd.norm_mul y y).symm⟩
/-- The two numbers one of which is the square of the root's first part. -/
theorem halves_sum {x n : V1} : (x + n) * i2 + (x - n) * i2 = x := by
  have := two_i2
  grind
theorem halves_mul {a : V2} {n : V1} (h : n * n = a.norm) : (a.a + n) * i2 * ((a.a - n) * i2) = -(a.b * i2 * (a.b * i2)) := by
  rw [V2.norm_eq] at h
  grind
theorem root_both {a : V2} {x k X Y : V1} (hx : x * x = X) (hk : x * k = 1) (hs : X + Y = a.a) (hp : X * Y = -(a.b * i2 * (a.b * i2))) : (⟨x, a.b * i2 * k⟩ : V2) * ⟨x, a.b * i2 * k⟩ = a := Qd.ext'
  (by
    rw [V2.mul_a]
    show x * x - a.b * i2 * k * (a.b * i2 * k) = a.a
    have : a.b * i2 * k * (a.b * i2 * k) = -Y := by
      have e : Y * (x * x) = -(a.b * i2 * (a.b * i2)) := by rw [hx]; grind
      have : (x * k) * (x * k) * Y = -(a.b * i2 * k * (a.b * i2 * k)) := by grind
      rw [hk] at this
      grind
    rw [this]
    grind)
  (by
    rw [V2.mul_b]
    show x * (a.b * i2 * k) + a.b * i2 * k * x = a.b
    have := two_i2
    grind)
theorem sq_low (x : V1) : (⟨x, 0⟩ : V2) * ⟨x, 0⟩ = Qd.of (x * x) := Qd.ext' (by rw [V2.mul_a]; show x * x - 0 * 0 = x * x; grind) (by rw [V2.mul_b]; show x * 0 + 0 * x = 0; grind)
theorem sq_high (x : V1) : (⟨0, x⟩ : V2) * ⟨0, x⟩ = Qd.of (-(x * x)) := Qd.ext' (by rw [V2.mul_a]; show 0 * 0 - x * x = -(x * x); grind) (by rw [V2.mul_b]; show 0 * x + x * 0 = 0; grind)
theorem low_v (x : Fp) : (⟨x, zeroFp⟩ : Fp2).v = ⟨x.v, 0⟩ := Fp2.mk_v rfl v_zero
theorem high_v (x : Fp) : (⟨zeroFp, x⟩ : Fp2).v = ⟨0, x.v⟩ := Fp2.mk_v v_zero rfl
theorem neg_neg1 (x : V1) : - -x = x := by grind
/-- What a root's two parts are, where the second one is not 0. -/
theorem parts_v {a : Fp2} (ha : a.ok) (hb : a.c1.v ≠ 0) {X : Fp} {Y : V1} (hX : X.ok) (hs : (sqrtF X).2 = true) (h1 : X.v + Y = a.v.a) (h2 : X.v * Y = -(a.v.b * i2 * (a.v.b * i2))) :
    (sqrtF X).1.v ≠ 0 ∧ (⟨(sqrtF X).1, mulF (mulF a.c1 (invF (ofF 2)).1) (invF (sqrtF X).1).1⟩ : Fp2).ok ∧ (⟨(sqrtF X).1, mulF (mulF a.c1 (invF (ofF 2)).1) (invF (sqrtF X).1).1⟩ : Fp2).v * (⟨(sqrtF X).1, mulF (mulF a.c1 (invF (ofF 2)).1) (invF (sqrtF X).1).1⟩ : Fp2).v = a.v := by
  obtain ⟨o2, v2⟩ := half_of2
  have hq := sqrt_v hX hs
  have ho := sqrt_ok' hX
  have hi2 : i2 ≠ 0 := inv_ne' two_ne
  have hw : a.v.b * i2 ≠ 0 := mul_ne' hb hi2
  have hne : (sqrtF X).1.v ≠ 0 := fun e => by
    have hX0 : X.v = 0 := by rw [← hq, e]; grind
    have : a.v.b * i2 * (a.v.b * i2) = 0 := by rw [hX0] at h2; grind
    exact mul_ne' hw hw this
  obtain ⟨_, k1, k2⟩ := (inv_v ho).2 hne
  have hm := mul_ok' (b := (invF (ofF 2)).1) ha.2
  refine ⟨hne, Fp2.mk_ok ho (mul_ok' hm), ?_⟩
  have e : (⟨(sqrtF X).1, mulF (mulF a.c1 (invF (ofF 2)).1) (invF (sqrtF X).1).1⟩ : Fp2).v = ⟨(sqrtF X).1.v, a.v.b * i2 * Fld.inv (sqrtF X).1.v⟩ := Fp2.mk_v rfl (by rw [v_mul hm k1, v_mul ha.2 o2, v2, k2, Fp2.v_b])
  rw [e]
  exact root_both hq (mul_inv' hne) h1 h2
theorem halves_v {a : Fp2} (ha : a.ok) {n : Fp} (hn : n.ok) : (mulF (addF a.c0 n) (invF (ofF 2)).1).ok ∧ (mulF (addF a.c0 n) (invF (ofF 2)).1).v = (a.v.a + n.v) * i2 ∧ (mulF (subF a.c0 n) (invF (ofF 2)).1).ok ∧ (mulF (subF a.c0 n) (invF (ofF 2)).1).v = (a.v.a - n.v) * i2 := by
  obtain ⟨o2, v2⟩ := half_of2
  have h1 := add_ok' ha.1 hn
  have h2 := sub_ok' ha.1 hn
  exact ⟨mul_ok' h1, by rw [v_mul h1 o2, v2, v_add ha.1 hn, Fp2.v_a], mul_ok' h2, by rw [v_mul h2 o2, v2, v_sub ha.1 hn, Fp2.v_a]⟩
section
variable {f0 : Fp → Fp2} {f1 : Fp2 → Fp} {f2 : Fp → Fp × Bool} {f3 : Fp2 → Fp → Fp2} {f4 : Fp2 → Fp2 → Fp2} {f5 : Fp2 → Bool} {f6 : Fp2 → Fp2} {a : Fp2}
end
section
variable {f0 : Fp → Fp × Int} {f1 : UInt64 → Fp} {f2 : Fp → Fp × Bool} {f3 f4 : Fp → Fp → Fp} {f5 : Fp → Fp} {f6 : Fp2 → Fp2 → Fp2} {f7 : Fp2 → Bool} {f8 : Fp2 → Fp2} {a : Fp2} {n : Fp}
theorem sqrt2R_none (h : (f2 (f3 (f4 a.c0 a.c0) (f4 a.c1 a.c1))).2 = false) : sqrt2R_G f0 f1 f2 f3 f4 f5 f6 f7 f8 a = (zeroFp2, false) := by
  unfold sqrt2R_G
  rw [h]
  rfl
variable (hn : (f2 (f3 (f4 a.c0 a.c0) (f4 a.c1 a.c1))).1 = n) (h : (f2 (f3 (f4 a.c0 a.c0) (f4 a.c1 a.c1))).2 = true)
include hn h
theorem sqrt2R_A (h1 : (f2 (f4 (f3 a.c0 n) (f0 (f1 2)).1)).2 = true) (h2 : fpEq (f2 (f4 (f3 a.c0 n) (f0 (f1 2)).1)).1 zeroFp = false)
    {z : Fp2} (hz : ⟨(f2 (f4 (f3 a.c0 n) (f0 (f1 2)).1)).1, f4 (f4 a.c1 (f0 (f1 2)).1) (f0 (f2 (f4 (f3 a.c0 n) (f0 (f1 2)).1)).1).1⟩ = z) (h3 : fp2Eq (f6 z z) a = true) :
    sqrt2R_G f0 f1 f2 f3 f4 f5 f6 f7 f8 a = finG f7 f8 z := by
  unfold sqrt2R_G finG
  rw [hn, h, h1, h2, hz, h3]
  cases f7 z <;> rfl
theorem sqrt2R_B (h1 : (f2 (f4 (f3 a.c0 n) (f0 (f1 2)).1)).2 = false) (h1' : (f2 (f4 (f3 a.c0 (f5 n)) (f0 (f1 2)).1)).2 = true) (h2 : fpEq (f2 (f4 (f3 a.c0 (f5 n)) (f0 (f1 2)).1)).1 zeroFp = false)
    {z : Fp2} (hz : ⟨(f2 (f4 (f3 a.c0 (f5 n)) (f0 (f1 2)).1)).1, f4 (f4 a.c1 (f0 (f1 2)).1) (f0 (f2 (f4 (f3 a.c0 (f5 n)) (f0 (f1 2)).1)).1).1⟩ = z) (h3 : fp2Eq (f6 z z) a = true) :
    sqrt2R_G f0 f1 f2 f3 f4 f5 f6 f7 f8 a = finG f7 f8 z := by
  unfold sqrt2R_G finG
  rw [hn, h, h1, h1', h2, hz, h3]
  cases f7 z <;> rfl
theorem sqrt2R_C (h1 : (f2 (f4 (f3 a.c0 n) (f0 (f1 2)).1)).2 = true) (h2 : fpEq (f2 (f4 (f3 a.c0 n) (f0 (f1 2)).1)).1 zeroFp = true) (h4 : (f2 (f5 a.c0)).2 = true)
    {z : Fp2} (hz : ⟨(f2 (f4 (f3 a.c0 n) (f0 (f1 2)).1)).1, (f2 (f5 a.c0)).1⟩ = z) (h3 : fp2Eq (f6 z z) a = true) :
    sqrt2R_G f0 f1 f2 f3 f4 f5 f6 f7 f8 a = finG f7 f8 z := by
  unfold sqrt2R_G finG
  rw [hn, h, h1, h2, h4, hz, h3]
  cases f7 z <;> rfl
theorem sqrt2R_D (h1 : (f2 (f4 (f3 a.c0 n) (f0 (f1 2)).1)).2 = true) (h2 : fpEq (f2 (f4 (f3 a.c0 n) (f0 (f1 2)).1)).1 zeroFp = true) (h4 : (f2 (f5 a.c0)).2 = false)
    (h1' : (f2 (f4 (f3 a.c0 (f5 n)) (f0 (f1 2)).1)).2 = true) (h2' : fpEq (f2 (f4 (f3 a.c0 (f5 n)) (f0 (f1 2)).1)).1 zeroFp = false)
    {z : Fp2} (hz : ⟨(f2 (f4 (f3 a.c0 (f5 n)) (f0 (f1 2)).1)).1, f4 (f4 a.c1 (f0 (f1 2)).1) (f0 (f2 (f4 (f3 a.c0 (f5 n)) (f0 (f1 2)).1)).1).1⟩ = z) (h3 : fp2Eq (f6 z z) a = true) :
    sqrt2R_G f0 f1 f2 f3 f4 f5 f6 f7 f8 a = finG f7 f8 z := by
  unfold sqrt2R_G finG
  rw [hn, h, h1, h2, h4, h1', h2', hz, h3]
  cases f7 z <;> rfl
theorem sqrt2R_E (h1 : (f2 (f4 (f3 a.c0 n) (f0 (f1 2)).1)).2 = false) (h1' : (f2 (f4 (f3 a.c0 (f5 n)) (f0 (f1 2)).1)).2 = true) (h2 : fpEq (f2 (f4 (f3 a.c0 (f5 n)) (f0 (f1 2)).1)).1 zeroFp = true) (h4 : (f2 (f5 a.c0)).2 = true)
    {z : Fp2} (hz : ⟨(f2 (f4 (f3 a.c0 (f5 n)) (f0 (f1 2)).1)).1, (f2 (f5 a.c0)).1⟩ = z) (h3 : fp2Eq (f6 z z) a = true) :
    sqrt2R_G f0 f1 f2 f3 f4 f5 f6 f7 f8 a = finG f7 f8 z := by
  unfold sqrt2R_G finG
  rw [hn, h, h1, h1', h2, h4, hz, h3]
  cases f7 z <;> rfl
end

/-- What the document's root tells. -/
theorem sqrtPF_fun {a : Fp} (ha : a.ok) : sqrtPF a = sqrtF a := sqrtPF_eq ha
theorem norm_R {a : Fp2} (ha : a.ok) : addPF (mulPF a.c0 a.c0) (mulPF a.c1 a.c1) = normF2 a := by
  rw [mulPF_eq ha.1 ha.1, mulPF_eq ha.2 ha.2, addPF_eq, normF2_eq]
theorem sqrt_zero {a : Fp} (ha : a.ok) (h : a.v = 0) : (sqrtF a).2 = true ∧ (sqrtF a).1.v = 0 := by
  have h1 : (sqrtF a).2 = true := (sqrt_snd ha).2 ⟨0, by rw [h]; grind⟩
  refine ⟨h1, ?_⟩
  have h2 := sqrt_v ha h1
  rw [h] at h2
  exact (mul_eq_zero' h2).elim id id
theorem ofF_two : ofF 2 = ofF 2 := rfl
theorem sqrt_rootR {a : Fp2} (ha : a.ok) : RootOf a (sqrt2R a) := by
  have hN := norm_ok2 ha
  have hg : (great2R : Fp2 → Bool) = great2V := funext great2R_eqV
  have hng : (neg2R : Fp2 → Fp2) = negF2 := funext neg2R_eq
  have en : sqrtPF (addPF (mulPF a.c0 a.c0) (mulPF a.c1 a.c1)) = sqrtF (normF2 a) := by rw [norm_R ha, sqrtPF_eq hN]
  unfold sqrt2R
  cases hs : (sqrtF (normF2 a)).2 with
  | false =>
    rw [sqrt2R_none (by rw [en]; exact hs)]
    refine .inr ⟨fun e => ?_, rfl⟩
    rw [(sqrt_snd hN).2 (by rw [v_norm2 ha]; exact root_norm e)] at hs
    cases hs
  | true =>
    have hn : (sqrtF (normF2 a)).1.ok := sqrt_ok' hN
    have hq : (sqrtF (normF2 a)).1.v * (sqrtF (normF2 a)).1.v = a.v.norm := by rw [sqrt_v hN hs, v_norm2 ha]
    obtain ⟨o2, v2⟩ := half_of2
    have hi2 : i2 ≠ 0 := inv_ne' two_ne
    have eh : invPF (ofF 2) = invF (ofF 2) := invPF_eq (ofF_ok 2)
    have hnn := neg_ok' hn
    obtain ⟨p1, p2, _, _⟩ := halves_v ha hn
    obtain ⟨p3, p4, _, _⟩ := halves_v ha hnn
    rw [v_neg hn] at p4
    have p4' : (mulF (addF a.c0 (negF (sqrtF (normF2 a)).1)) (invF (ofF 2)).1).v = (a.v.a - (sqrtF (normF2 a)).1.v) * i2 := by rw [p4]; grind
    have e1 : mulPF (addPF a.c0 (sqrtF (normF2 a)).1) (invPF (ofF 2)).1 = mulF (addF a.c0 (sqrtF (normF2 a)).1) (invF (ofF 2)).1 := by rw [eh, addPF_eq, mulPF_eq (add_ok' ha.1 hn) o2]
    have e2 : mulPF (addPF a.c0 (negPF (sqrtF (normF2 a)).1)) (invPF (ofF 2)).1 = mulF (addF a.c0 (negF (sqrtF (normF2 a)).1)) (invF (ofF 2)).1 := by rw [eh, negPF_eq, addPF_eq, mulPF_eq (add_ok' ha.1 hnn) o2]
    have s1 := sqrtPF_eq p1
    have s2 := sqrtPF_eq p3
    have s0 : sqrtPF (negPF a.c0) = sqrtF (negF a.c0) := by rw [negPF_eq, sqrtPF_eq (neg_ok' ha.1)]
    have em : mulPF a.c1 (invPF (ofF 2)).1 = mulF a.c1 (invF (ofF 2)).1 := by rw [eh, mulPF_eq ha.2 o2]
    have hm := mul_ok' (b := (invF (ofF 2)).1) ha.2
    have hp := halves_mul hq
    have ep : ∀ {x : Fp}, x.ok → x.v ≠ 0 → mulPF (mulPF a.c1 (invPF (ofF 2)).1) (invPF x).1 = mulF (mulF a.c1 (invF (ofF 2)).1) (invF x).1 := fun {x} hx h0 => by
      rw [em, invPF_eq hx, mulPF_eq hm ((inv_v hx).2 h0).2.1]
    have fin : ∀ {z : Fp2}, z.ok → z.v * z.v = a.v → fp2Eq (mul2R z z) a = true := fun {z} hz h => by
      rw [mul2R_eq hz hz, fp2Eq_v (mul_ok2 hz hz) ha, v_mul2 hz hz, h]
    have en1 := congrArg Prod.fst en
    have en2 : (sqrtPF (addPF (mulPF a.c0 a.c0) (mulPF a.c1 a.c1))).2 = true := by rw [en]; exact hs
    by_cases hb : a.c1.v = 0
    · have hb2 : a.v.b = 0 := hb
      have hnorm : (sqrtF (normF2 a)).1.v = a.v.a ∨ (sqrtF (normF2 a)).1.v = -a.v.a := sq_eq' (by rw [hq, V2.norm_eq, hb2]; grind)
      have two := two_i2
      have hav : (⟨a.v.a, 0⟩ : V2) = a.v := Qd.ext' rfl hb.symm
      have big : ∀ {X : Fp} (hX : X.ok), X.v = a.v.a → a.v.a ≠ 0 → (sqrtF X).2 = true → (sqrtF X).1.v ≠ 0 ∧ (⟨(sqrtF X).1, mulF (mulF a.c1 (invF (ofF 2)).1) (invF (sqrtF X).1).1⟩ : Fp2).ok ∧ (⟨(sqrtF X).1, mulF (mulF a.c1 (invF (ofF 2)).1) (invF (sqrtF X).1).1⟩ : Fp2).v * (⟨(sqrtF X).1, mulF (mulF a.c1 (invF (ofF 2)).1) (invF (sqrtF X).1).1⟩ : Fp2).v = a.v := fun {X} hX h1 h0 h2 => by
        have hq := sqrt_v hX h2
        have hne : (sqrtF X).1.v ≠ 0 := fun e => h0 (by rw [← h1, ← hq, e]; grind)
        obtain ⟨_, k1, k2⟩ := (inv_v (sqrt_ok' hX)).2 hne
        refine ⟨hne, Fp2.mk_ok (sqrt_ok' hX) (mul_ok' hm), ?_⟩
        rw [show (⟨(sqrtF X).1, mulF (mulF a.c1 (invF (ofF 2)).1) (invF (sqrtF X).1).1⟩ : Fp2).v = ⟨(sqrtF X).1.v, 0⟩ from Fp2.mk_v rfl (by rw [v_mul hm k1, v_mul ha.2 o2, hb]; grind), sq_low, hq, h1]
        exact hav
      have small : ∀ {X : Fp} (hX : X.ok), X.v = 0 → (sqrtF (negF a.c0)).2 = true → (⟨(sqrtF X).1, (sqrtF (negF a.c0)).1⟩ : Fp2).ok ∧ (⟨(sqrtF X).1, (sqrtF (negF a.c0)).1⟩ : Fp2).v * (⟨(sqrtF X).1, (sqrtF (negF a.c0)).1⟩ : Fp2).v = a.v := fun {X} hX h1 h2 => by
        refine ⟨Fp2.mk_ok (sqrt_ok' hX) (sqrt_ok' (neg_ok' ha.1)), ?_⟩
        rw [show (⟨(sqrtF X).1, (sqrtF (negF a.c0)).1⟩ : Fp2).v = ⟨0, (sqrtF (negF a.c0)).1.v⟩ from Fp2.mk_v (sqrt_zero hX h1).2 rfl, sq_high, sqrt_v (neg_ok' ha.1) h2, v_neg ha.1, neg_neg1]
        exact hav
      have caseA : ∀ h1 : (sqrtF (mulF (addF a.c0 (sqrtF (normF2 a)).1) (invF (ofF 2)).1)).2 = true, (sqrtF (mulF (addF a.c0 (sqrtF (normF2 a)).1) (invF (ofF 2)).1)).1.v ≠ 0 → (mulF (addF a.c0 (sqrtF (normF2 a)).1) (invF (ofF 2)).1).v = a.v.a → RootOf a (sqrt2R_G invPF ofF sqrtPF addPF mulPF negPF mul2R great2R neg2R a) := fun h1 h2 h3 => by
        obtain ⟨k0, k1, k2⟩ := big p1 h3 (fun e => h2 ((sqrt_zero p1 (by rw [h3, e])).2)) h1
        rw [sqrt2R_A en1 en2 (by rw [e1, s1]; exact h1) (by rw [e1, s1]; exact (fpEq_nonzero (sqrt_ok' p1)).2 h2) (by rw [e1, s1, ep (sqrt_ok' p1) h2]) (fin k1 k2), hg, hng]
        exact fin_root k1 k2
      rcases hnorm with e0 | e0
      · have x1 : (mulF (addF a.c0 (sqrtF (normF2 a)).1) (invF (ofF 2)).1).v = a.v.a := by rw [p2, e0]; grind
        have x2 : (mulF (addF a.c0 (negF (sqrtF (normF2 a)).1)) (invF (ofF 2)).1).v = 0 := by rw [p4', e0]; grind
        cases h1 : (sqrtF (mulF (addF a.c0 (sqrtF (normF2 a)).1) (invF (ofF 2)).1)).2 with
        | true =>
          by_cases h2 : (sqrtF (mulF (addF a.c0 (sqrtF (normF2 a)).1) (invF (ofF 2)).1)).1.v = 0
          · have h3 : a.v.a = 0 := by rw [← x1, ← sqrt_v p1 h1, h2]; grind
            have h4 : (sqrtF (negF a.c0)).2 = true := (sqrt_zero (neg_ok' ha.1) (by rw [v_neg ha.1, ← Fp2.v_a, h3]; grind)).1
            obtain ⟨k1, k2⟩ := small p1 (by rw [x1, h3]) h4
            rw [sqrt2R_C en1 en2 (by rw [e1, s1]; exact h1) (by rw [e1, s1]; exact (fpEq_zero (sqrt_ok' p1)).2 h2) (by rw [s0]; exact h4) (by rw [e1, s1, s0]) (fin k1 k2), hg, hng]
            exact fin_root k1 k2
          · exact caseA h1 h2 x1
        | false =>
          obtain ⟨h2, h3⟩ := sqrt_zero p3 x2
          have h4 : (sqrtF (negF a.c0)).2 = true := by
            refine (sqrt_neg_of ha.1 ?_).2
            cases h5 : (sqrtF a.c0).2 with
            | false => rfl
            | true =>
              rw [(sqrt_snd p1).2 ⟨(sqrtF a.c0).1.v, by rw [sqrt_v ha.1 h5, x1, Fp2.v_a]⟩] at h1
              cases h1
          obtain ⟨k1, k2⟩ := small p3 x2 h4
          rw [sqrt2R_E en1 en2 (by rw [e1, s1]; exact h1) (by rw [e2, s2]; exact h2) (by rw [e2, s2]; exact (fpEq_zero (sqrt_ok' p3)).2 h3) (by rw [s0]; exact h4) (by rw [e2, s2, s0]) (fin k1 k2), hg, hng]
          exact fin_root k1 k2
      · have x1 : (mulF (addF a.c0 (sqrtF (normF2 a)).1) (invF (ofF 2)).1).v = 0 := by rw [p2, e0]; grind
        have x2 : (mulF (addF a.c0 (negF (sqrtF (normF2 a)).1)) (invF (ofF 2)).1).v = a.v.a := by rw [p4', e0]; grind
        obtain ⟨h1, h2⟩ := sqrt_zero p1 x1
        cases h4 : (sqrtF (negF a.c0)).2 with
        | true =>
          obtain ⟨k1, k2⟩ := small p1 x1 h4
          rw [sqrt2R_C en1 en2 (by rw [e1, s1]; exact h1) (by rw [e1, s1]; exact (fpEq_zero (sqrt_ok' p1)).2 h2) (by rw [s0]; exact h4) (by rw [e1, s1, s0]) (fin k1 k2), hg, hng]
          exact fin_root k1 k2
        | false =>
          obtain ⟨h5, h6⟩ := sqrt_neg_of (neg_ok' ha.1) h4
          have h7 : a.v.a ≠ 0 := fun e => h5 (by rw [v_neg ha.1, ← Fp2.v_a, e]; grind)
          have h8 : (sqrtF (mulF (addF a.c0 (negF (sqrtF (normF2 a)).1)) (invF (ofF 2)).1)).2 = true := (sqrt_snd p3).2 ⟨(sqrtF (negF (negF a.c0))).1.v, by rw [sqrt_v (neg_ok' (neg_ok' ha.1)) h6, v_neg (neg_ok' ha.1), v_neg ha.1, neg_neg1, x2, Fp2.v_a]⟩
          obtain ⟨k0, k1, k2⟩ := big p3 x2 h7 h8
          rw [sqrt2R_D en1 en2 (by rw [e1, s1]; exact h1) (by rw [e1, s1]; exact (fpEq_zero (sqrt_ok' p1)).2 h2) (by rw [s0]; exact h4) (by rw [e2, s2]; exact h8) (by rw [e2, s2]; exact (fpEq_nonzero (sqrt_ok' p3)).2 k0) (by rw [e2, s2, ep (sqrt_ok' p3) k0]) (fin k1 k2), hg, hng]
          exact fin_root k1 k2
    · have hw : a.v.b * i2 ≠ 0 := mul_ne' hb hi2
      cases h1 : (sqrtF (mulF (addF a.c0 (sqrtF (normF2 a)).1) (invF (ofF 2)).1)).2 with
      | true =>
        obtain ⟨k0, k1, k2⟩ := parts_v ha hb p1 h1 (Y := (a.v.a - (sqrtF (normF2 a)).1.v) * i2) (by rw [p2]; exact halves_sum) (by rw [p2]; exact hp)
        rw [sqrt2R_A en1 en2 (by rw [e1, s1]; exact h1) (by rw [e1, s1]; exact (fpEq_nonzero (sqrt_ok' p1)).2 k0) (by rw [e1, s1, ep (sqrt_ok' p1) k0]) (fin k1 k2), hg, hng]
        exact fin_root k1 k2
      | false =>
        have h2 : (sqrtF (mulF (addF a.c0 (negF (sqrtF (normF2 a)).1)) (invF (ofF 2)).1)).2 = true := (sqrt_snd p3).2 (by
          rw [p4']
          refine sq_other hw hp fun e => ?_
          rw [(sqrt_snd p1).2 (by rw [p2]; exact e)] at h1
          cases h1)
        obtain ⟨k0, k1, k2⟩ := parts_v ha hb p3 h2 (Y := (a.v.a + (sqrtF (normF2 a)).1.v) * i2) (by rw [p4', CR.add_comm]; exact halves_sum) (by rw [p4', CR.mul_comm]; exact hp)
        rw [sqrt2R_B en1 en2 (by rw [e1, s1]; exact h1) (by rw [e2, s2]; exact h2) (by rw [e2, s2]; exact (fpEq_nonzero (sqrt_ok' p3)).2 k0) (by rw [e2, s2, ep (sqrt_ok' p3) k0]) (fin k1 k2), hg, hng]
        exact fin_root k1 k2
/-! the document's power -/
theorem pow2R_v {a : Fp2} (ha : a.ok) (e : List UInt64) : pow2R a e = powF2 a e := by
  have h0 : one2R.ok := by rw [one2R_eq]; exact one_ok2
  obtain ⟨h1, h2⟩ := powG_v (mF := mul2R) Fp2.ok Fp2.v (fun {a b} ha hb => by rw [mul2R_eq ha hb]; exact mul_ok2 ha hb) (fun {a b} ha hb => by rw [mul2R_eq ha hb]; exact v_mul2 ha hb) ha e (64 * e.length) h0
  obtain ⟨k1, k2⟩ := pow_v2 ha e
  refine Fp2.v_inj h1 k1 ?_
  rw [k2]
  unfold pow2R
  rw [h2, one2R_eq, v_one2, one_pow']
  grind

end Go.Proofs.Ytchlamfdofpolaa
