/- Texts of the proof, joined. -/
import Derived.Test.YtbbnabednkopdaaGreatZJr6
set_option linter.unusedSimpArgs false
set_option linter.unusedVariables false
namespace Go.Proofs.YtbbnabednkopdaaGreat
open Go.RowKit
theorem add2R_G_eq (f : Fp → Fp → Fp) (a b : Fp2) : add2R_G f a b = ⟨f a.c0 b.c0, f a.c1 b.c1⟩ := rfl
theorem sub2R_G_eq (f : Fp → Fp → Fp) (a b : Fp2) : sub2R_G f a b = ⟨f a.c0 b.c0, f a.c1 b.c1⟩ := rfl
theorem mul2R_G_eq (f g h : Fp → Fp → Fp) (a b : Fp2) : mul2R_G f g h a b = ⟨f (g a.c0 b.c0) (g a.c1 b.c1), h (g a.c0 b.c1) (g a.c1 b.c0)⟩ := rfl
theorem conj2R_G_eq (f : Fp → Fp) (a : Fp2) : conj2R_G f a = ⟨a.c0, f a.c1⟩ := rfl
theorem neg2R_G_eq (f : Fp2 → Fp2 → Fp2) (a : Fp2) : neg2R_G f a = f zeroFp2 a := rfl
theorem one2R_G_eq (f : UInt64 → Fp) : one2R_G f = ⟨f 1, zeroFp⟩ := rfl
theorem xi2R_G_eq (f : UInt64 → Fp) : xi2R_G f = ⟨f 1, f 1⟩ := rfl
theorem add2R_eq (a b : Fp2) : add2R a b = addF2 a b := by
  unfold add2R
  rw [add2R_G_eq, addPF_eq, addPF_eq, addF2_eq]
theorem sub2R_eq (a b : Fp2) : sub2R a b = subF2 a b := by
  unfold sub2R
  rw [sub2R_G_eq, subPF_eq, subPF_eq, subF2_eq]
theorem neg2R_eq (a : Fp2) : neg2R a = negF2 a := by
  unfold neg2R
  rw [neg2R_G_eq, sub2R_eq, subF2_eq, negF2_eq]
  unfold negF
  rfl
theorem conj2R_eq (a : Fp2) : conj2R a = conjF2 a := by
  unfold conj2R
  rw [conj2R_G_eq, negPF_eq, conjF2_eq]
theorem one2R_eq : one2R = oneFp2 := by
  unfold one2R
  rw [one2R_G_eq, one_of]
  rfl
theorem xi2R_eq' : xi2R = ⟨oneFp, oneFp⟩ := by
  unfold xi2R
  rw [xi2R_G_eq, one_of]
theorem xi_ok2 : xi2R.ok := by rw [xi2R_eq']; exact ⟨one_ok', one_ok'⟩
theorem v_xi2 : xi2R.v = xi := by rw [xi2R_eq']; exact Qd.ext' v_one v_one
theorem mul2R_eq {a b : Fp2} (ha : a.ok) (hb : b.ok) : mul2R a b = mulF2 a b := by
  unfold mul2R
  rw [mul2R_G_eq, mulPF_eq ha.1 hb.1, mulPF_eq ha.2 hb.2, mulPF_eq ha.1 hb.2, mulPF_eq ha.2 hb.1, subPF_eq, addPF_eq]
  refine Fp2.v_inj (Fp2.mk_ok (sub_ok' (mul_ok' ha.1) (mul_ok' ha.2)) (add_ok' (mul_ok' ha.1) (mul_ok' ha.2))) (mul_ok2 ha hb) ?_
  rw [v_mul2 ha hb]
  refine Fp2.mk_v ?_ ?_
  · rw [V2.mul_a, v_sub (mul_ok' ha.1) (mul_ok' ha.2), v_mul ha.1 hb.1, v_mul ha.2 hb.2, Fp2.v_a, Fp2.v_a, Fp2.v_b, Fp2.v_b]
  · rw [V2.mul_b, v_add (mul_ok' ha.1) (mul_ok' ha.2), v_mul ha.1 hb.2, v_mul ha.2 hb.1, Fp2.v_a, Fp2.v_a, Fp2.v_b, Fp2.v_b]
def great2V (a : Fp2) : Bool := match fpEq a.c1 zeroFp with
  | true => greatF a.c0
  | false => greatF a.c1
theorem great2R_G_eq (f : Fp → Bool) (a : Fp2) : great2R_G f a = match fpEq a.c1 zeroFp with | true => f a.c0 | false => f a.c1 := by
  unfold great2R_G
  generalize fpEq a.c1 _ = b
  cases b <;> rfl
theorem great2R_eqV (a : Fp2) : great2R a = great2V a := by
  have h : (greatPF : Fp → Bool) = greatF := funext greatPF_eq
  unfold great2R great2V
  rw [great2R_G_eq, h]
theorem greatF2_G_eq (f : Fp → Bool) (a : Fp2) : greatF2_G f a = match fpEq a.c1 zeroFp with | true => f a.c0 | false => f a.c1 := by
  unfold greatF2_G
  generalize fpEq a.c1 _ = b
  cases b <;> rfl
theorem greatF2_eq (a : Fp2) : greatF2 a = great2V a := by
  unfold greatF2 great2V
  rw [greatF2_G_eq]
theorem inv2R_no {f0 : Fp2 → Fp2 → Fp2} {f1 : Fp2 → Fp2} {f2 : Fp → Fp × Int} {a : Fp2} (h : (f2 (f0 a (f1 a)).c0).2 = 7) : inv2R_G f0 f1 f2 a = (zeroFp2, 7) := by
  unfold inv2R_G
  rw [h]
  rfl
theorem inv2R_yes {f0 : Fp2 → Fp2 → Fp2} {f1 : Fp2 → Fp2} {f2 : Fp → Fp × Int} {a : Fp2} (h : (f2 (f0 a (f1 a)).c0).2 = 0) : inv2R_G f0 f1 f2 a = (f0 (f1 a) ⟨(f2 (f0 a (f1 a)).c0).1, zeroFp⟩, 0) := by
  unfold inv2R_G
  rw [h]
  rfl
theorem inv2R_eq {a : Fp2} (ha : a.ok) : inv2R a = invF2 a := by
  have hc := conj_ok2 ha
  have hn : (mul2R a (conj2R a)).c0 = normF2 a := by
    rw [conj2R_eq, mul2R_eq ha hc]
    refine Fp.v_inj (mul_ok2 ha hc).1 (norm_ok2 ha) ?_
    rw [v_norm2 ha, ← Fp2.v_a, v_mul2 ha hc, v_conj2 ha, Qd.mul_conj]
    rfl
  obtain ⟨h1, h2⟩ := inv_v (norm_ok2 ha)
  obtain ⟨k1, k2⟩ := inv_v2 ha
  rw [v_norm2 ha] at h1 h2
  by_cases h0 : a.v = 0
  · rw [k1 h0]
    unfold inv2R
    exact inv2R_no (by rw [hn, invPF_eq (norm_ok2 ha)]; exact h1 (by rw [h0]; exact V2.norm_zero))
  · obtain ⟨i1, i2, i3⟩ := h2 (Qd.norm_ne h0)
    obtain ⟨j1, j2, j3⟩ := k2 h0
    have e : inv2R a = (mul2R (conj2R a) ⟨(invF (normF2 a)).1, zeroFp⟩, 0) := by
      unfold inv2R
      rw [inv2R_yes (by rw [hn, invPF_eq (norm_ok2 ha)]; exact i1), hn, invPF_eq (norm_ok2 ha)]
    have hq : (⟨(invF (normF2 a)).1, zeroFp⟩ : Fp2).ok := Fp2.mk_ok i2 zero_ok'
    rw [e]
    refine Prod.ext ?_ j1.symm
    simp only []
    rw [conj2R_eq, mul2R_eq hc hq]
    refine Fp2.v_inj (mul_ok2 hc hq) j2 ?_
    rw [j3, v_mul2 hc hq, v_conj2 ha, V2.inv_eq h0, show (⟨(invF (normF2 a)).1, zeroFp⟩ : Fp2).v = Qd.of (Fld.inv a.v.norm) from Fp2.mk_v i3 v_zero]
    exact CR.mul_comm _ _
theorem great2_low {a : Fp2} (h : fpEq a.c1 zeroFp = true) : great2V a = greatF a.c0 := by
  unfold great2V
  rw [h]
theorem great2_high {a : Fp2} (h : fpEq a.c1 zeroFp = false) : great2V a = greatF a.c1 := by
  unfold great2V
  rw [h]
theorem fpEq_zero {a : Fp} (ha : a.ok) : fpEq a zeroFp = true ↔ a.v = 0 := by
  have := fpEq_v ha zero_ok'
  rw [v_zero] at this
  exact this
theorem fpEq_nonzero {a : Fp} (ha : a.ok) : fpEq a zeroFp = false ↔ a.v ≠ 0 := by
  rw [← Bool.not_eq_true, fpEq_zero ha]
theorem great_neg2 {a : Fp2} (ha : a.ok) (h : a.v ≠ 0) : great2V (negF2 a) = !great2V a := by
  have e0 : (negF2 a).c0 = negF a.c0 := by rw [negF2_eq]
  have e1 : (negF2 a).c1 = negF a.c1 := by rw [negF2_eq]
  by_cases h1 : a.c1.v = 0
  · have h0 : a.c0.v ≠ 0 := fun h0 => h (Qd.ext' h0 h1)
    rw [great2_low ((fpEq_zero ha.2).2 h1), great2_low (a := negF2 a) (by rw [e1, fpEq_zero (neg_ok' ha.2), v_neg ha.2, h1]; grind), e0, great_neg ha.1 h0]
  · rw [great2_high ((fpEq_nonzero ha.2).2 h1), great2_high (a := negF2 a) (by rw [e1, fpEq_nonzero (neg_ok' ha.2), v_neg ha.2]; grind), e1, great_neg ha.2 h1]
theorem great_zero2 : great2V zeroFp2 = false := by
  rw [great2_low (a := zeroFp2) rfl]
  exact great_zero
def RootOf (a : Fp2) (r : Fp2 × Bool) : Prop := ((∃ y : V2, y * y = a.v) ∧ r.2 = true ∧ r.1.ok ∧ r.1.v * r.1.v = a.v ∧ great2V r.1 = false) ∨ ((¬ ∃ y : V2, y * y = a.v) ∧ r = (zeroFp2, false))
theorem RootOf.eq {a : Fp2} {r s : Fp2 × Bool} (h : RootOf a r) (k : RootOf a s) : r = s := by
  rcases h with ⟨h0, h1, h2, h3, h4⟩ | ⟨h0, h1⟩
  · rcases k with ⟨k0, k1, k2, k3, k4⟩ | ⟨k0, _⟩
    · refine Prod.ext ?_ (h1.trans k1.symm)
      rcases sq_eq' (h3.trans k3.symm) with e | e
      · exact Fp2.v_inj h2 k2 e
      · by_cases hz : s.1.v = 0
        · exact Fp2.v_inj h2 k2 (by rw [e, hz]; grind)
        · exfalso
          have : r.1 = negF2 s.1 := Fp2.v_inj h2 (neg_ok2 k2) (by rw [e, v_neg2 k2])
          rw [this, great_neg2 k2 hz, k4] at h4
          cases h4
    · exact absurd h0 k0
  · rcases k with ⟨k0, _⟩ | ⟨_, k1⟩
    · exact absurd k0 h0
    · rw [h1, k1]
def finG (g : Fp2 → Bool) (n : Fp2 → Fp2) (z : Fp2) : Fp2 × Bool := match g z with | true => (n z, true) | false => (z, true)
theorem fin_root {a z : Fp2} (hz : z.ok) (h : z.v * z.v = a.v) : RootOf a (finG great2V negF2 z) := by
  refine .inl ⟨⟨z.v, h⟩, ?_⟩
  unfold finG
  cases hg : great2V z with
  | true =>
    have hne : z.v ≠ 0 := fun e => by
      rw [(v_eq_zero2 hz).1 e, great_zero2] at hg
      cases hg
    refine ⟨rfl, neg_ok2 hz, ?_, ?_⟩
    · show (negF2 z).v * (negF2 z).v = _
      rw [v_neg2 hz]
      grind
    · show great2V (negF2 z) = false
      rw [great_neg2 hz hne, hg]
      rfl
  | false => exact ⟨rfl, hz, h, hg⟩
def i2 : V1 := Fld.inv 2
theorem two_i2 : (2 : V1) * i2 = 1 := mul_inv' two_ne
theorem half_of2 : (invF (ofF 2)).1.ok ∧ (invF (ofF 2)).1.v = i2 := by
  have e : (ofF 2).v = 2 := by rw [v_of]; exact V1.ext (by decide +kernel)
  obtain ⟨_, h1, h2⟩ := (inv_v (ofF_ok 2)).2 (by rw [e]; exact two_ne)
  exact ⟨h1, by rw [h2, e]; rfl⟩
theorem sqrt_ok' {a : Fp} (ha : a.ok) : (sqrtF a).1.ok := by
  obtain ⟨h1, h2⟩ := sqrt_law ha
  by_cases h : ∃ y : V1, y * y = a.v
  · exact (h1 h).2.1
  · rw [h2 h]; exact zero_ok'
theorem sqrt_v {a : Fp} (ha : a.ok) (h : (sqrtF a).2 = true) : (sqrtF a).1.v * (sqrtF a).1.v = a.v := ((sqrt_law ha).1 ((sqrt_snd ha).1 h)).2.2.1
theorem sqrt_neg_of {a : Fp} (ha : a.ok) (h : (sqrtF a).2 = false) : a.v ≠ 0 ∧ (sqrtF (negF a)).2 = true := by
  have h1 : ¬ ∃ y : V1, y * y = a.v := fun e => by rw [(sqrt_snd ha).2 e] at h; cases h
  have h0 : a.v ≠ 0 := fun e => h1 ⟨0, by rw [e]; grind⟩
  refine ⟨h0, (sqrt_snd (neg_ok' ha)).2 ?_⟩
  rw [v_neg ha]
  exact (sq_neg h0).2 h1
theorem sq_other {x y w : V1} (hw : w ≠ 0) (h : x * y = -(w * w)) : (¬ ∃ z : V1, z * z = x) → ∃ z : V1, z * z = y := fun hn => by
  have hx : x ≠ 0 := fun e => by
    have : w * w = 0 := by grind
    exact mul_ne' hw hw this
  obtain ⟨z, hz⟩ := (sq_neg hx).2 hn
  have hz0 : z ≠ 0 := fun e => hx (by grind)
  have hi := mul_inv' hz0
  refine ⟨w * Fld.inv z, ?_⟩
  have e1 : x = -(z * z) := by grind
  have e2 : z * z * y = w * w := by grind
  have : y = w * w * (Fld.inv z * Fld.inv z) := by
    have : y = (z * Fld.inv z) * (z * Fld.inv z) * y := by rw [hi]; grind
    grind
  grind
theorem root_norm {a : V2} (h : ∃ y : V2, y * y = a) : ∃ y : V1, y * y = a.norm := by
  obtain ⟨y, rfl⟩ := h
  exact ⟨y.norm, (Qd.norm_mul y y).symm⟩
theorem halves_sum {x n : V1} : (x + n) * i2 + (x - n) * i2 = x := by
  have := two_i2
  grind
theorem halves_mul {a : V2} {n : V1} (h : n * n = a.norm) : (a.a + n) * i2 * ((a.a - n) * i2) = -(a.b * i2 * (a.b * i2)) := by
  rw [V2.norm_eq] at h
  grind
theorem root_both {a : V2} {x k X Y : V1} (hx : x * x = X) (hk : x * k = 1) (hs : X + Y = a.a) (hp : X * Y = -(a.b * i2 * (a.b * i2))) : (⟨x, a.b * i2 * k⟩ : V2) * ⟨x, a.b * i2 * k⟩ = a := Qd.ext'
  (by
    rw [V2.mul_a]
    show x * x - a.b * i2 * k * (a.b * i2 * k) = a.a
    have : a.b * i2 * k * (a.b * i2 * k) = -Y := by
      have e : Y * (x * x) = -(a.b * i2 * (a.b * i2)) := by rw [hx]; grind
      have : (x * k) * (x * k) * Y = -(a.b * i2 * k * (a.b * i2 * k)) := by grind
      rw [hk] at this
      grind
    rw [this]
    grind)
  (by
    rw [V2.mul_b]
    show x * (a.b * i2 * k) + a.b * i2 * k * x = a.b
    have := two_i2
    grind)
theorem single_low {f0 : Fp → Fp × Bool} {f1 : Fp → Fp} {a : Fp} (h : (f0 a).2 = true) : singleF2_G f0 f1 a = ⟨(f0 a).1, zeroFp⟩ := by
  unfold singleF2_G
  rw [h]
theorem single_high {f0 : Fp → Fp × Bool} {f1 : Fp → Fp} {a : Fp} (h : (f0 a).2 = false) : singleF2_G f0 f1 a = ⟨zeroFp, (f0 (f1 a)).1⟩ := by
  unfold singleF2_G
  rw [h]
theorem sq_low (x : V1) : (⟨x, 0⟩ : V2) * ⟨x, 0⟩ = Qd.of (x * x) := Qd.ext' (by rw [V2.mul_a]; show x * x - 0 * 0 = x * x; grind) (by rw [V2.mul_b]; show x * 0 + 0 * x = 0; grind)
theorem sq_high (x : V1) : (⟨0, x⟩ : V2) * ⟨0, x⟩ = Qd.of (-(x * x)) := Qd.ext' (by rw [V2.mul_a]; show 0 * 0 - x * x = -(x * x); grind) (by rw [V2.mul_b]; show 0 * x + x * 0 = 0; grind)
theorem low_v (x : Fp) : (⟨x, zeroFp⟩ : Fp2).v = ⟨x.v, 0⟩ := Fp2.mk_v rfl v_zero
theorem high_v (x : Fp) : (⟨zeroFp, x⟩ : Fp2).v = ⟨0, x.v⟩ := Fp2.mk_v v_zero rfl
theorem neg_neg1 (x : V1) : - -x = x := by grind
theorem single_v {a : Fp} (ha : a.ok) : (singleF2 a).ok ∧ (singleF2 a).v * (singleF2 a).v = Qd.of a.v := by
  unfold singleF2
  cases hs : (sqrtF a).2 with
  | true =>
    rw [single_low hs, low_v, sq_low, sqrt_v ha hs]
    exact ⟨Fp2.mk_ok (sqrt_ok' ha) zero_ok', rfl⟩
  | false =>
    rw [single_high hs]
    obtain ⟨h0, h1⟩ := sqrt_neg_of ha hs
    have hn := neg_ok' ha
    rw [high_v, sq_high, sqrt_v hn h1, v_neg ha, neg_neg1]
    exact ⟨Fp2.mk_ok zero_ok' (sqrt_ok' hn), rfl⟩
theorem both_low {f0 : Fp → Fp × Int} {f1 : UInt64 → Fp} {f2 : Fp → Fp × Bool} {f3 f4 f5 : Fp → Fp → Fp} {a : Fp2} {n : Fp} (h : (f2 (f5 (f3 a.c0 n) (f0 (f1 2)).1)).2 = true) :
    bothF2_G f0 f1 f2 f3 f4 f5 a n = ⟨(f2 (f5 (f3 a.c0 n) (f0 (f1 2)).1)).1, f5 (f5 a.c1 (f0 (f1 2)).1) (f0 (f2 (f5 (f3 a.c0 n) (f0 (f1 2)).1)).1).1⟩ := by
  unfold bothF2_G
  rw [h]
  rfl
theorem both_high {f0 : Fp → Fp × Int} {f1 : UInt64 → Fp} {f2 : Fp → Fp × Bool} {f3 f4 f5 : Fp → Fp → Fp} {a : Fp2} {n : Fp} (h : (f2 (f5 (f3 a.c0 n) (f0 (f1 2)).1)).2 = false) :
    bothF2_G f0 f1 f2 f3 f4 f5 a n = ⟨(f2 (f5 (f4 a.c0 n) (f0 (f1 2)).1)).1, f5 (f5 a.c1 (f0 (f1 2)).1) (f0 (f2 (f5 (f4 a.c0 n) (f0 (f1 2)).1)).1).1⟩ := by
  unfold bothF2_G
  rw [h]
  rfl
theorem parts_v {a : Fp2} (ha : a.ok) (hb : a.c1.v ≠ 0) {X : Fp} {Y : V1} (hX : X.ok) (hs : (sqrtF X).2 = true) (h1 : X.v + Y = a.v.a) (h2 : X.v * Y = -(a.v.b * i2 * (a.v.b * i2))) :
    (sqrtF X).1.v ≠ 0 ∧ (⟨(sqrtF X).1, mulF (mulF a.c1 (invF (ofF 2)).1) (invF (sqrtF X).1).1⟩ : Fp2).ok ∧ (⟨(sqrtF X).1, mulF (mulF a.c1 (invF (ofF 2)).1) (invF (sqrtF X).1).1⟩ : Fp2).v * (⟨(sqrtF X).1, mulF (mulF a.c1 (invF (ofF 2)).1) (invF (sqrtF X).1).1⟩ : Fp2).v = a.v := by
  obtain ⟨o2, v2⟩ := half_of2
  have hq := sqrt_v hX hs
  have ho := sqrt_ok' hX
  have hi2 : i2 ≠ 0 := inv_ne' two_ne
  have hw : a.v.b * i2 ≠ 0 := mul_ne' hb hi2
  have hne : (sqrtF X).1.v ≠ 0 := fun e => by
    have hX0 : X.v = 0 := by rw [← hq, e]; grind
    have : a.v.b * i2 * (a.v.b * i2) = 0 := by rw [hX0] at h2; grind
    exact mul_ne' hw hw this
  obtain ⟨_, k1, k2⟩ := (inv_v ho).2 hne
  have hm := mul_ok' (b := (invF (ofF 2)).1) ha.2
  refine ⟨hne, Fp2.mk_ok ho (mul_ok' hm), ?_⟩
  have e : (⟨(sqrtF X).1, mulF (mulF a.c1 (invF (ofF 2)).1) (invF (sqrtF X).1).1⟩ : Fp2).v = ⟨(sqrtF X).1.v, a.v.b * i2 * Fld.inv (sqrtF X).1.v⟩ := Fp2.mk_v rfl (by rw [v_mul hm k1, v_mul ha.2 o2, v2, k2, Fp2.v_b])
  rw [e]
  exact root_both hq (mul_inv' hne) h1 h2
theorem halves_v {a : Fp2} (ha : a.ok) {n : Fp} (hn : n.ok) : (mulF (addF a.c0 n) (invF (ofF 2)).1).ok ∧ (mulF (addF a.c0 n) (invF (ofF 2)).1).v = (a.v.a + n.v) * i2 ∧ (mulF (subF a.c0 n) (invF (ofF 2)).1).ok ∧ (mulF (subF a.c0 n) (invF (ofF 2)).1).v = (a.v.a - n.v) * i2 := by
  obtain ⟨o2, v2⟩ := half_of2
  have h1 := add_ok' ha.1 hn
  have h2 := sub_ok' ha.1 hn
  exact ⟨mul_ok' h1, by rw [v_mul h1 o2, v2, v_add ha.1 hn, Fp2.v_a], mul_ok' h2, by rw [v_mul h2 o2, v2, v_sub ha.1 hn, Fp2.v_a]⟩
theorem both_v {a : Fp2} (ha : a.ok) (hb : a.c1.v ≠ 0) {n : Fp} (hn : n.ok) (hq : n.v * n.v = a.v.norm) : (bothF2 a n).ok ∧ (bothF2 a n).v * (bothF2 a n).v = a.v := by
  obtain ⟨p1, p2, p3, p4⟩ := halves_v ha hn
  have hi2 : i2 ≠ 0 := inv_ne' two_ne
  have hw : a.v.b * i2 ≠ 0 := mul_ne' hb hi2
  have hp := halves_mul hq
  unfold bothF2
  cases hs : (sqrtF (mulF (addF a.c0 n) (invF (ofF 2)).1)).2 with
  | true =>
    rw [both_low hs]
    exact (parts_v ha hb p1 hs (Y := (a.v.a - n.v) * i2) (by rw [p2]; exact halves_sum) (by rw [p2]; exact hp)).2
  | false =>
    rw [both_high hs]
    have hs' : (sqrtF (mulF (subF a.c0 n) (invF (ofF 2)).1)).2 = true := (sqrt_snd p3).2 (by
      rw [p4]
      refine sq_other hw hp fun e => ?_
      rw [(sqrt_snd p1).2 (by rw [p2]; exact e)] at hs
      cases hs)
    exact (parts_v ha hb p3 hs' (Y := (a.v.a + n.v) * i2) (by rw [p4, CR.add_comm]; exact halves_sum) (by rw [p4, CR.mul_comm]; exact hp)).2
section
variable {f0 : Fp → Fp2} {f1 : Fp2 → Fp} {f2 : Fp → Fp × Bool} {f3 : Fp2 → Fp → Fp2} {f4 : Fp2 → Fp2 → Fp2} {f5 : Fp2 → Bool} {f6 : Fp2 → Fp2} {a : Fp2}
theorem sqrtF2_one (h : fpEq a.c1 zeroFp = true) (h2 : fp2Eq (f4 (f0 a.c0) (f0 a.c0)) a = true) : sqrtF2_G f0 f1 f2 f3 f4 f5 f6 a = finG f5 f6 (f0 a.c0) := by
  unfold sqrtF2_G finG
  rw [h, h2]
  cases f5 (f0 a.c0) <;> rfl
theorem sqrtF2_none (h : fpEq a.c1 zeroFp = false) (h2 : (f2 (f1 a)).2 = false) : sqrtF2_G f0 f1 f2 f3 f4 f5 f6 a = (zeroFp2, false) := by
  unfold sqrtF2_G
  rw [h, h2]
  rfl
theorem sqrtF2_two (h : fpEq a.c1 zeroFp = false) (h1 : (f2 (f1 a)).2 = true) (h2 : fp2Eq (f4 (f3 a (f2 (f1 a)).1) (f3 a (f2 (f1 a)).1)) a = true) : sqrtF2_G f0 f1 f2 f3 f4 f5 f6 a = finG f5 f6 (f3 a (f2 (f1 a)).1) := by
  unfold sqrtF2_G finG
  rw [h, h1, h2]
  cases f5 (f3 a (f2 (f1 a)).1) <;> rfl
end
theorem sqrt_root2 {a : Fp2} (ha : a.ok) : RootOf a (sqrtF2 a) := by
  have hg : (greatF2 : Fp2 → Bool) = great2V := funext greatF2_eq
  unfold sqrtF2
  rw [hg]
  by_cases hb : a.c1.v = 0
  · obtain ⟨s1, s2⟩ := single_v ha.1
    have s3 : (singleF2 a.c0).v * (singleF2 a.c0).v = a.v := by rw [s2]; exact Qd.ext' rfl hb.symm
    rw [sqrtF2_one ((fpEq_zero ha.2).2 hb) ((fp2Eq_v (mul_ok2 s1 s1) ha).2 (by rw [v_mul2 s1 s1, s3]))]
    exact fin_root s1 s3
  · have hb' := (fpEq_nonzero ha.2).2 hb
    have hn := norm_ok2 ha
    cases hs : (sqrtF (normF2 a)).2 with
    | true =>
      obtain ⟨s1, s2⟩ := both_v ha hb (sqrt_ok' hn) (by rw [sqrt_v hn hs, v_norm2 ha])
      rw [sqrtF2_two hb' hs ((fp2Eq_v (mul_ok2 s1 s1) ha).2 (by rw [v_mul2 s1 s1, s2]))]
      exact fin_root s1 s2
    | false =>
      rw [sqrtF2_none hb' hs]
      refine .inr ⟨fun e => ?_, rfl⟩
      rw [(sqrt_snd hn).2 (by rw [v_norm2 ha]; exact root_norm e)] at hs
      cases hs
section
variable {f0 : Fp → Fp × Int} {f1 : UInt64 → Fp} {f2 : Fp → Fp × Bool} {f3 f4 : Fp → Fp → Fp} {f5 : Fp → Fp} {f6 : Fp2 → Fp2 → Fp2} {f7 : Fp2 → Bool} {f8 : Fp2 → Fp2} {a : Fp2} {n : Fp}
theorem sqrt2R_none (h : (f2 (f3 (f4 a.c0 a.c0) (f4 a.c1 a.c1))).2 = false) : sqrt2R_G f0 f1 f2 f3 f4 f5 f6 f7 f8 a = (zeroFp2, false) := by
  unfold sqrt2R_G
  rw [h]
  rfl
variable (hn : (f2 (f3 (f4 a.c0 a.c0) (f4 a.c1 a.c1))).1 = n) (h : (f2 (f3 (f4 a.c0 a.c0) (f4 a.c1 a.c1))).2 = true)
include hn h
theorem sqrt2R_A (h1 : (f2 (f4 (f3 a.c0 n) (f0 (f1 2)).1)).2 = true) (h2 : fpEq (f2 (f4 (f3 a.c0 n) (f0 (f1 2)).1)).1 zeroFp = false)
    {z : Fp2} (hz : ⟨(f2 (f4 (f3 a.c0 n) (f0 (f1 2)).1)).1, f4 (f4 a.c1 (f0 (f1 2)).1) (f0 (f2 (f4 (f3 a.c0 n) (f0 (f1 2)).1)).1).1⟩ = z) (h3 : fp2Eq (f6 z z) a = true) :
    sqrt2R_G f0 f1 f2 f3 f4 f5 f6 f7 f8 a = finG f7 f8 z := by
  unfold sqrt2R_G finG
  rw [hn, h, h1, h2, hz, h3]
  cases f7 z <;> rfl
theorem sqrt2R_B (h1 : (f2 (f4 (f3 a.c0 n) (f0 (f1 2)).1)).2 = false) (h1' : (f2 (f4 (f3 a.c0 (f5 n)) (f0 (f1 2)).1)).2 = true) (h2 : fpEq (f2 (f4 (f3 a.c0 (f5 n)) (f0 (f1 2)).1)).1 zeroFp = false)
    {z : Fp2} (hz : ⟨(f2 (f4 (f3 a.c0 (f5 n)) (f0 (f1 2)).1)).1, f4 (f4 a.c1 (f0 (f1 2)).1) (f0 (f2 (f4 (f3 a.c0 (f5 n)) (f0 (f1 2)).1)).1).1⟩ = z) (h3 : fp2Eq (f6 z z) a = true) :
    sqrt2R_G f0 f1 f2 f3 f4 f5 f6 f7 f8 a = finG f7 f8 z := by
  unfold sqrt2R_G finG
  rw [hn, h, h1, h1', h2, hz, h3]
  cases f7 z <;> rfl
theorem sqrt2R_C (h1 : (f2 (f4 (f3 a.c0 n) (f0 (f1 2)).1)).2 = true) (h2 : fpEq (f2 (f4 (f3 a.c0 n) (f0 (f1 2)).1)).1 zeroFp = true) (h4 : (f2 (f5 a.c0)).2 = true)
    {z : Fp2} (hz : ⟨(f2 (f4 (f3 a.c0 n) (f0 (f1 2)).1)).1, (f2 (f5 a.c0)).1⟩ = z) (h3 : fp2Eq (f6 z z) a = true) :
    sqrt2R_G f0 f1 f2 f3 f4 f5 f6 f7 f8 a = finG f7 f8 z := by
  unfold sqrt2R_G finG
  rw [hn, h, h1, h2, h4, hz, h3]
  cases f7 z <;> rfl
theorem sqrt2R_D (h1 : (f2 (f4 (f3 a.c0 n) (f0 (f1 2)).1)).2 = true) (h2 : fpEq (f2 (f4 (f3 a.c0 n) (f0 (f1 2)).1)).1 zeroFp = true) (h4 : (f2 (f5 a.c0)).2 = false)
    (h1' : (f2 (f4 (f3 a.c0 (f5 n)) (f0 (f1 2)).1)).2 = true) (h2' : fpEq (f2 (f4 (f3 a.c0 (f5 n)) (f0 (f1 2)).1)).1 zeroFp = false)
    {z : Fp2} (hz : ⟨(f2 (f4 (f3 a.c0 (f5 n)) (f0 (f1 2)).1)).1, f4 (f4 a.c1 (f0 (f1 2)).1) (f0 (f2 (f4 (f3 a.c0 (f5 n)) (f0 (f1 2)).1)).1).1⟩ = z) (h3 : fp2Eq (f6 z z) a = true) :
    sqrt2R_G f0 f1 f2 f3 f4 f5 f6 f7 f8 a = finG f7 f8 z := by
  unfold sqrt2R_G finG
  rw [hn, h, h1, h2, h4, h1', h2', hz, h3]
  cases f7 z <;> rfl
theorem sqrt2R_E (h1 : (f2 (f4 (f3 a.c0 n) (f0 (f1 2)).1)).2 = false) (h1' : (f2 (f4 (f3 a.c0 (f5 n)) (f0 (f1 2)).1)).2 = true) (h2 : fpEq (f2 (f4 (f3 a.c0 (f5 n)) (f0 (f1 2)).1)).1 zeroFp = true) (h4 : (f2 (f5 a.c0)).2 = true)
    {z : Fp2} (hz : ⟨(f2 (f4 (f3 a.c0 (f5 n)) (f0 (f1 2)).1)).1, (f2 (f5 a.c0)).1⟩ = z) (h3 : fp2Eq (f6 z z) a = true) :
    sqrt2R_G f0 f1 f2 f3 f4 f5 f6 f7 f8 a = finG f7 f8 z := by
  unfold sqrt2R_G finG
  rw [hn, h, h1, h1', h2, h4, hz, h3]
  cases f7 z <;> rfl
end
theorem norm_R {a : Fp2} (ha : a.ok) : addPF (mulPF a.c0 a.c0) (mulPF a.c1 a.c1) = normF2 a := by
  rw [mulPF_eq ha.1 ha.1, mulPF_eq ha.2 ha.2, addPF_eq, normF2_eq]
theorem sqrt_zero {a : Fp} (ha : a.ok) (h : a.v = 0) : (sqrtF a).2 = true ∧ (sqrtF a).1.v = 0 := by
  have h1 : (sqrtF a).2 = true := (sqrt_snd ha).2 ⟨0, by rw [h]; grind⟩
  refine ⟨h1, ?_⟩
  have h2 := sqrt_v ha h1
  rw [h] at h2
  exact (mul_eq_zero' h2).elim id id
theorem sqrt_rootR {a : Fp2} (ha : a.ok) : RootOf a (sqrt2R a) := by
  have hN := norm_ok2 ha
  have hg : (great2R : Fp2 → Bool) = great2V := funext great2R_eqV
  have hng : (neg2R : Fp2 → Fp2) = negF2 := funext neg2R_eq
  have en : sqrtPF (addPF (mulPF a.c0 a.c0) (mulPF a.c1 a.c1)) = sqrtF (normF2 a) := by rw [norm_R ha, sqrtPF_eq hN]
  unfold sqrt2R
  cases hs : (sqrtF (normF2 a)).2 with
  | false =>
    rw [sqrt2R_none (by rw [en]; exact hs)]
    refine .inr ⟨fun e => ?_, rfl⟩
    rw [(sqrt_snd hN).2 (by rw [v_norm2 ha]; exact root_norm e)] at hs
    cases hs
  | true =>
    have hn : (sqrtF (normF2 a)).1.ok := sqrt_ok' hN
    have hq : (sqrtF (normF2 a)).1.v * (sqrtF (normF2 a)).1.v = a.v.norm := by rw [sqrt_v hN hs, v_norm2 ha]
    obtain ⟨o2, v2⟩ := half_of2
    have hi2 : i2 ≠ 0 := inv_ne' two_ne
    have eh : invPF (ofF 2) = invF (ofF 2) := invPF_eq (ofF_ok 2)
    have hnn := neg_ok' hn
    obtain ⟨p1, p2, _, _⟩ := halves_v ha hn
    obtain ⟨p3, p4, _, _⟩ := halves_v ha hnn
    rw [v_neg hn] at p4
    have p4' : (mulF (addF a.c0 (negF (sqrtF (normF2 a)).1)) (invF (ofF 2)).1).v = (a.v.a - (sqrtF (normF2 a)).1.v) * i2 := by rw [p4]; grind
    have e1 : mulPF (addPF a.c0 (sqrtF (normF2 a)).1) (invPF (ofF 2)).1 = mulF (addF a.c0 (sqrtF (normF2 a)).1) (invF (ofF 2)).1 := by rw [eh, addPF_eq, mulPF_eq (add_ok' ha.1 hn) o2]
    have e2 : mulPF (addPF a.c0 (negPF (sqrtF (normF2 a)).1)) (invPF (ofF 2)).1 = mulF (addF a.c0 (negF (sqrtF (normF2 a)).1)) (invF (ofF 2)).1 := by rw [eh, negPF_eq, addPF_eq, mulPF_eq (add_ok' ha.1 hnn) o2]
    have s1 := sqrtPF_eq p1
    have s2 := sqrtPF_eq p3
    have s0 : sqrtPF (negPF a.c0) = sqrtF (negF a.c0) := by rw [negPF_eq, sqrtPF_eq (neg_ok' ha.1)]
    have em : mulPF a.c1 (invPF (ofF 2)).1 = mulF a.c1 (invF (ofF 2)).1 := by rw [eh, mulPF_eq ha.2 o2]
    have hm := mul_ok' (b := (invF (ofF 2)).1) ha.2
    have hp := halves_mul hq
    have ep : ∀ {x : Fp}, x.ok → x.v ≠ 0 → mulPF (mulPF a.c1 (invPF (ofF 2)).1) (invPF x).1 = mulF (mulF a.c1 (invF (ofF 2)).1) (invF x).1 := fun {x} hx h0 => by
      rw [em, invPF_eq hx, mulPF_eq hm ((inv_v hx).2 h0).2.1]
    have fin : ∀ {z : Fp2}, z.ok → z.v * z.v = a.v → fp2Eq (mul2R z z) a = true := fun {z} hz h => by
      rw [mul2R_eq hz hz, fp2Eq_v (mul_ok2 hz hz) ha, v_mul2 hz hz, h]
    have en1 := congrArg Prod.fst en
    have en2 : (sqrtPF (addPF (mulPF a.c0 a.c0) (mulPF a.c1 a.c1))).2 = true := by rw [en]; exact hs
    by_cases hb : a.c1.v = 0
    · have hb2 : a.v.b = 0 := hb
      have hnorm : (sqrtF (normF2 a)).1.v = a.v.a ∨ (sqrtF (normF2 a)).1.v = -a.v.a := sq_eq' (by rw [hq, V2.norm_eq, hb2]; grind)
      have two := two_i2
      have hav : (⟨a.v.a, 0⟩ : V2) = a.v := Qd.ext' rfl hb.symm
      have big : ∀ {X : Fp} (hX : X.ok), X.v = a.v.a → a.v.a ≠ 0 → (sqrtF X).2 = true → (sqrtF X).1.v ≠ 0 ∧ (⟨(sqrtF X).1, mulF (mulF a.c1 (invF (ofF 2)).1) (invF (sqrtF X).1).1⟩ : Fp2).ok ∧ (⟨(sqrtF X).1, mulF (mulF a.c1 (invF (ofF 2)).1) (invF (sqrtF X).1).1⟩ : Fp2).v * (⟨(sqrtF X).1, mulF (mulF a.c1 (invF (ofF 2)).1) (invF (sqrtF X).1).1⟩ : Fp2).v = a.v := fun {X} hX h1 h0 h2 => by
        have hq := sqrt_v hX h2
        have hne : (sqrtF X).1.v ≠ 0 := fun e => h0 (by rw [← h1, ← hq, e]; grind)
        obtain ⟨_, k1, k2⟩ := (inv_v (sqrt_ok' hX)).2 hne
        refine ⟨hne, Fp2.mk_ok (sqrt_ok' hX) (mul_ok' hm), ?_⟩
        rw [show (⟨(sqrtF X).1, mulF (mulF a.c1 (invF (ofF 2)).1) (invF (sqrtF X).1).1⟩ : Fp2).v = ⟨(sqrtF X).1.v, 0⟩ from Fp2.mk_v rfl (by rw [v_mul hm k1, v_mul ha.2 o2, hb]; grind), sq_low, hq, h1]
        exact hav
      have small : ∀ {X : Fp} (hX : X.ok), X.v = 0 → (sqrtF (negF a.c0)).2 = true → (⟨(sqrtF X).1, (sqrtF (negF a.c0)).1⟩ : Fp2).ok ∧ (⟨(sqrtF X).1, (sqrtF (negF a.c0)).1⟩ : Fp2).v * (⟨(sqrtF X).1, (sqrtF (negF a.c0)).1⟩ : Fp2).v = a.v := fun {X} hX h1 h2 => by
        refine ⟨Fp2.mk_ok (sqrt_ok' hX) (sqrt_ok' (neg_ok' ha.1)), ?_⟩
        rw [show (⟨(sqrtF X).1, (sqrtF (negF a.c0)).1⟩ : Fp2).v = ⟨0, (sqrtF (negF a.c0)).1.v⟩ from Fp2.mk_v (sqrt_zero hX h1).2 rfl, sq_high, sqrt_v (neg_ok' ha.1) h2, v_neg ha.1, neg_neg1]
        exact hav
      have caseA : ∀ h1 : (sqrtF (mulF (addF a.c0 (sqrtF (normF2 a)).1) (invF (ofF 2)).1)).2 = true, (sqrtF (mulF (addF a.c0 (sqrtF (normF2 a)).1) (invF (ofF 2)).1)).1.v ≠ 0 → (mulF (addF a.c0 (sqrtF (normF2 a)).1) (invF (ofF 2)).1).v = a.v.a → RootOf a (sqrt2R_G invPF ofF sqrtPF addPF mulPF negPF mul2R great2R neg2R a) := fun h1 h2 h3 => by
        obtain ⟨k0, k1, k2⟩ := big p1 h3 (fun e => h2 ((sqrt_zero p1 (by rw [h3, e])).2)) h1
        rw [sqrt2R_A en1 en2 (by rw [e1, s1]; exact h1) (by rw [e1, s1]; exact (fpEq_nonzero (sqrt_ok' p1)).2 h2) (by rw [e1, s1, ep (sqrt_ok' p1) h2]) (fin k1 k2), hg, hng]
        exact fin_root k1 k2
      rcases hnorm with e0 | e0
      · have x1 : (mulF (addF a.c0 (sqrtF (normF2 a)).1) (invF (ofF 2)).1).v = a.v.a := by rw [p2, e0]; grind
        have x2 : (mulF (addF a.c0 (negF (sqrtF (normF2 a)).1)) (invF (ofF 2)).1).v = 0 := by rw [p4', e0]; grind
        cases h1 : (sqrtF (mulF (addF a.c0 (sqrtF (normF2 a)).1) (invF (ofF 2)).1)).2 with
        | true =>
          by_cases h2 : (sqrtF (mulF (addF a.c0 (sqrtF (normF2 a)).1) (invF (ofF 2)).1)).1.v = 0
          · have h3 : a.v.a = 0 := by rw [← x1, ← sqrt_v p1 h1, h2]; grind
            have h4 : (sqrtF (negF a.c0)).2 = true := (sqrt_zero (neg_ok' ha.1) (by rw [v_neg ha.1, ← Fp2.v_a, h3]; grind)).1
            obtain ⟨k1, k2⟩ := small p1 (by rw [x1, h3]) h4
            rw [sqrt2R_C en1 en2 (by rw [e1, s1]; exact h1) (by rw [e1, s1]; exact (fpEq_zero (sqrt_ok' p1)).2 h2) (by rw [s0]; exact h4) (by rw [e1, s1, s0]) (fin k1 k2), hg, hng]
            exact fin_root k1 k2
          · exact caseA h1 h2 x1
        | false =>
          obtain ⟨h2, h3⟩ := sqrt_zero p3 x2
          have h4 : (sqrtF (negF a.c0)).2 = true := by
            refine (sqrt_neg_of ha.1 ?_).2
            cases h5 : (sqrtF a.c0).2 with
            | false => rfl
            | true =>
              rw [(sqrt_snd p1).2 ⟨(sqrtF a.c0).1.v, by rw [sqrt_v ha.1 h5, x1, Fp2.v_a]⟩] at h1
              cases h1
          obtain ⟨k1, k2⟩ := small p3 x2 h4
          rw [sqrt2R_E en1 en2 (by rw [e1, s1]; exact h1) (by rw [e2, s2]; exact h2) (by rw [e2, s2]; exact (fpEq_zero (sqrt_ok' p3)).2 h3) (by rw [s0]; exact h4) (by rw [e2, s2, s0]) (fin k1 k2), hg, hng]
          exact fin_root k1 k2
      · have x1 : (mulF (addF a.c0 (sqrtF (normF2 a)).1) (invF (ofF 2)).1).v = 0 := by rw [p2, e0]; grind
        have x2 : (mulF (addF a.c0 (negF (sqrtF (normF2 a)).1)) (invF (ofF 2)).1).v = a.v.a := by rw [p4', e0]; grind
        obtain ⟨h1, h2⟩ := sqrt_zero p1 x1
        cases h4 : (sqrtF (negF a.c0)).2 with
        | true =>
          obtain ⟨k1, k2⟩ := small p1 x1 h4
          rw [sqrt2R_C en1 en2 (by rw [e1, s1]; exact h1) (by rw [e1, s1]; exact (fpEq_zero (sqrt_ok' p1)).2 h2) (by rw [s0]; exact h4) (by rw [e1, s1, s0]) (fin k1 k2), hg, hng]
          exact fin_root k1 k2
        | false =>
          obtain ⟨h5, h6⟩ := sqrt_neg_of (neg_ok' ha.1) h4
          have h7 : a.v.a ≠ 0 := fun e => h5 (by rw [v_neg ha.1, ← Fp2.v_a, e]; grind)
          have h8 : (sqrtF (mulF (addF a.c0 (negF (sqrtF (normF2 a)).1)) (invF (ofF 2)).1)).2 = true := (sqrt_snd p3).2 ⟨(sqrtF (negF (negF a.c0))).1.v, by rw [sqrt_v (neg_ok' (neg_ok' ha.1)) h6, v_neg (neg_ok' ha.1), v_neg ha.1, neg_neg1, x2, Fp2.v_a]⟩
          obtain ⟨k0, k1, k2⟩ := big p3 x2 h7 h8
          rw [sqrt2R_D en1 en2 (by rw [e1, s1]; exact h1) (by rw [e1, s1]; exact (fpEq_zero (sqrt_ok' p1)).2 h2) (by rw [s0]; exact h4) (by rw [e2, s2]; exact h8) (by rw [e2, s2]; exact (fpEq_nonzero (sqrt_ok' p3)).2 k0) (by rw [e2, s2, ep (sqrt_ok' p3) k0]) (fin k1 k2), hg, hng]
          exact fin_root k1 k2
    · have hw : a.v.b * i2 ≠ 0 := mul_ne' hb hi2
      cases h1 : (sqrtF (mulF (addF a.c0 (sqrtF (normF2 a)).1) (invF (ofF 2)).1)).2 with
      | true =>
        obtain ⟨k0, k1, k2⟩ := parts_v ha hb p1 h1 (Y := (a.v.a - (sqrtF (normF2 a)).1.v) * i2) (by rw [p2]; exact halves_sum) (by rw [p2]; exact hp)
        rw [sqrt2R_A en1 en2 (by rw [e1, s1]; exact h1) (by rw [e1, s1]; exact (fpEq_nonzero (sqrt_ok' p1)).2 k0) (by rw [e1, s1, ep (sqrt_ok' p1) k0]) (fin k1 k2), hg, hng]
        exact fin_root k1 k2
      | false =>
        have h2 : (sqrtF (mulF (addF a.c0 (negF (sqrtF (normF2 a)).1)) (invF (ofF 2)).1)).2 = true := (sqrt_snd p3).2 (by
          rw [p4']
          refine sq_other hw hp fun e => ?_
          rw [(sqrt_snd p1).2 (by rw [p2]; exact e)] at h1
          cases h1)
        obtain ⟨k0, k1, k2⟩ := parts_v ha hb p3 h2 (Y := (a.v.a + (sqrtF (normF2 a)).1.v) * i2) (by rw [p4', CR.add_comm]; exact halves_sum) (by rw [p4', CR.mul_comm]; exact hp)
        rw [sqrt2R_B en1 en2 (by rw [e1, s1]; exact h1) (by rw [e2, s2]; exact h2) (by rw [e2, s2]; exact (fpEq_nonzero (sqrt_ok' p3)).2 k0) (by rw [e2, s2, ep (sqrt_ok' p3) k0]) (fin k1 k2), hg, hng]
        exact fin_root k1 k2
theorem sqrt2R_eq {a : Fp2} (ha : a.ok) : sqrt2R a = sqrtF2 a := (sqrt_rootR ha).eq (sqrt_root2 ha)
end Go.Proofs.YtbbnabednkopdaaGreat

set_option linter.unusedSimpArgs false
set_option linter.unusedVariables false
namespace Go.Proofs.YtbbnabednkopdaaGreat
def dblG {α : Type} (tw pl : α → α) (e : List UInt64) : Nat → α → α
  | 0, x => x
  | n + 1, x => dblG tw pl e n (match bitAt e n with | true => pl (tw x) | false => tw x)
theorem dblG_pt {α K : Type} [Fld K] [Crv K] (R : α → Pt K → Prop) {tw pl : α → α} {p : Pt K} (hp : p.on) (h1 : ∀ {o : α} {q : Pt K}, q.on → R o q → R (tw o) (q.add q)) (h2 : ∀ {o : α} {q : Pt K}, q.on → R o q → R (pl o) (q.add p)) (e : List UInt64) :
    ∀ (n : Nat) {o : α} {q : Pt K}, q.on → R o q → R (dblG tw pl e n o) ((q.mul (2 ^ n)).add (p.mul (eLow e n)))
  | 0, o, q, hq, h => by
    show R o ((q.mul 1).add (p.mul 0))
    rw [mul_one_pt, mul_zero_pt, add_inf]
    exact h
  | n + 1, o, q, hq, h => by
    have e2 : (2 : Nat) ^ (n + 1) = 2 ^ n + 2 ^ n := by rw [Nat.pow_succ]; omega
    have hqq := add_on hq hq
    simp only [dblG]
    cases hb : bitAt e n with
    | true =>
      have ih := dblG_pt R hp h1 h2 e n (add_on hqq hp) (h2 hqq (h1 hq h))
      have el : eLow e (n + 1) = 2 ^ n + eLow e n := by simp only [eLow, hb, Bool.toNat_true, Nat.one_mul]; exact Nat.add_comm _ _
      rw [add_mul_pt hqq hp, add_mul_pt hq hq, ← mul_add_pt hq, ← e2, add_assoc_pt (mul_on hq _) (mul_on hp _) (mul_on hp _), ← mul_add_pt hp, ← el] at ih
      exact ih
    | false =>
      have ih := dblG_pt R hp h1 h2 e n hqq (h1 hq h)
      have el : eLow e (n + 1) = eLow e n := by simp only [eLow, hb, Bool.toNat_false, Nat.zero_mul, Nat.add_zero]
      rw [add_mul_pt hq hq, ← mul_add_pt hq, ← e2, ← el] at ih
      exact ih
theorem dblG_all {α K : Type} [Fld K] [Crv K] (R : α → Pt K → Prop) {tw pl : α → α} {p : Pt K} (hp : p.on) (h1 : ∀ {o : α} {q : Pt K}, q.on → R o q → R (tw o) (q.add q)) (h2 : ∀ {o : α} {q : Pt K}, q.on → R o q → R (pl o) (q.add p)) (e : List UInt64) {o : α} (h : R o .inf) :
    R (dblG tw pl e (64 * e.length) o) (p.mul (valL e)) := by
  have := dblG_pt R hp h1 h2 e (64 * e.length) (q := .inf) trivial h
  rw [mul_inf_pt, inf_add, eLow_valL] at this
  exact this
theorem V1.four_cube : ∀ x : V1, x * x * x + 4 ≠ 0 := fun x h => by
  have hx : x ≠ 0 := fun e => by
    rw [e] at h
    have h4 : (4 : V1) = 0 := by grind
    have := congrArg V1.nat h4
    exact absurd this (by decide +kernel)
  have h1 : x ^ 3 = -4 := by grind
  have h2 : (-4 : V1) ^ ((pN - 1) / 3) = 1 := by
    rw [← h1, ← pow_mul', Nat.mul_comm, third]
    exact V1.fermat hx
  have h3 := congrArg V1.nat h2
  have h4 : (-4 : V1).nat = pN - 4 := by decide +kernel
  rw [V1.nat_pow, h4, V1.nat_one, ← mpow_eq pN 381 _ _ (by decide +kernel)] at h3
  exact absurd h3 (by decide +kernel)
instance crv1 : Crv V1 where
  b := 4
  two := two_ne
  no := V1.four_cube
def bb2 : V2 := ⟨4, 4⟩
theorem bb2_norm : bb2.norm = 32 := by
  rw [V2.norm_eq]
  show (4 : V1) * 4 + 4 * 4 = 32
  grind
theorem V2.two_ne : (2 : V2) ≠ 0 := fun e => Go.Proofs.YtbbnabednkopdaaGreat.two_ne (by
  have := congrArg Qd.a e
  exact this)
theorem V2.four_cube : ∀ x : V2, x * x * x + bb2 ≠ 0 := fun x h => by
  have h1 : x * x * x = -bb2 := by grind
  have h2 : x.norm * x.norm * x.norm = 32 := by
    rw [← Qd.norm_mul, ← Qd.norm_mul, h1, ← bb2_norm, V2.norm_eq, V2.norm_eq]
    show -bb2.a * -bb2.a + -bb2.b * -bb2.b = _
    grind
  have hx : x.norm ≠ 0 := fun e => by
    rw [e] at h2
    have h4 : (32 : V1) = 0 := h2.symm.trans (CR.mul_zero _)
    have := congrArg V1.nat h4
    exact absurd this (by decide +kernel)
  have h3 : (32 : V1) ^ ((pN - 1) / 3) = 1 := by
    have e : (32 : V1) = x.norm ^ 3 := by rw [← h2]; grind
    rw [e, ← pow_mul', Nat.mul_comm, third]
    exact V1.fermat hx
  have h5 := congrArg V1.nat h3
  have h4 : (32 : V1).nat = 32 := by decide +kernel
  rw [V1.nat_pow, h4, V1.nat_one, ← mpow_eq pN 381 _ _ (by decide +kernel)] at h5
  exact absurd h5 (by decide +kernel)
instance crv2 : Crv V2 where
  b := bb2
  two := V2.two_ne
  no := V2.four_cube
theorem add_ok1 {a b : Fp} (ha : a.ok) (hb : b.ok) : (addF a b).ok := add_ok' ha hb
theorem sub_ok1 {a b : Fp} (ha : a.ok) (hb : b.ok) : (subF a b).ok := sub_ok' ha hb
theorem neg_ok1 {a : Fp} (ha : a.ok) : (negF a).ok := neg_ok' ha
theorem mul_ok1 {a b : Fp} (ha : a.ok) (hb : b.ok) : (mulF a b).ok := mul_ok' ha
theorem half_ok1 {a b : Fp} (ha : a.ok) (hb : b.ok) : (halfF a b).ok := half_ok' ha
theorem whole_ok1 {a : Fp} (ha : a.ok) : (wholeF a).ok := whole_ok' ha
theorem zero_ok1 : zeroFp.ok := zero_ok'
theorem one_ok1 : oneFp.ok := one_ok'
theorem v_add1 {a b : Fp} (ha : a.ok) (hb : b.ok) : (addF a b).v = a.v + b.v := v_add ha hb
theorem v_sub1 {a b : Fp} (ha : a.ok) (hb : b.ok) : (subF a b).v = a.v - b.v := v_sub ha hb
theorem v_neg1 {a : Fp} (ha : a.ok) : (negF a).v = -a.v := v_neg ha
theorem v_mul1 {a b : Fp} (ha : a.ok) (hb : b.ok) : (mulF a b).v = a.v * b.v := v_mul ha hb
theorem v_half1 {a b : Fp} (ha : a.ok) (hb : b.ok) : (halfF a b).v = ri * (a.v * b.v) := v_half ha hb
theorem v_whole1 {a : Fp} (ha : a.ok) : (wholeF a).v = rv * a.v := v_whole ha
theorem v_zero1 : zeroFp.v = 0 := v_zero
theorem v_one1 : oneFp.v = 1 := v_one
theorem inv_v2' {a : Fp2} (ha : a.ok) : (a.v = 0 → (invF2 a).2 = 7) ∧ (a.v ≠ 0 → (invF2 a).2 = 0 ∧ (invF2 a).1.ok ∧ (invF2 a).1.v = Fld.inv a.v) := ⟨fun h => congrArg Prod.snd ((inv_v2 ha).1 h), (inv_v2 ha).2⟩
theorem eq_v1 {a b : Fp} (ha : a.ok) (hb : b.ok) : fpEq a b = true ↔ a.v = b.v := fpEq_v ha hb
theorem may1_iff (a : Fp) : mayF a = true ↔ a.ok := mayF_ok a
end Go.Proofs.YtbbnabednkopdaaGreat

set_option linter.unusedSimpArgs false
set_option linter.unusedVariables false
namespace Go.Proofs.YtbbnabednkopdaaGreat
open Go.RowKit
abbrev ks1 : Kd Sp1 := kRow Sp1
def tmSt1 (e : List UInt64) (x : Sp1) (cs : List Cell) (z : Int) : St := mkSt 31 [(1, inV 0 e), (2, ptrV 1), (4, ptrV 2), (5, ptrV 3), (6, vI z)] [inHE eU64 e, own 146 (Row.cs x), own 146 (zeros 18), own 146 cs]
def tTm1 (tw : Sp1 → Sp1) (pl : Sp1 → Sp1 → Sp1) : Table := [(192, K1 ks1.arg ks1.rs.res tw), (193, K2 ks1.arg ks1.arg ks1.rs.res pl)]
theorem tm1_front (T : Table) (x : Sp1) (e : List UInt64) : stageT (En T) 100 ((flat (codeOf Tryz.f150)).take 1) (startSt Tryz.f150 [.one (ks1.av x), iL.av 0 e] [inHE eU64 e]) [1, 2, 4] [0, 1, 2] =
    .leaf (mkSt 31 [(1, inV 0 e), (2, ptrV 1), (4, ptrV 2)] [inHE eU64 e, own 146 (Row.cs x), own 146 (zeros 18)]) := by kernel_rfl
theorem tm1_start (tw : Sp1 → Sp1) (pl : Sp1 → Sp1 → Sp1) (x : Sp1) (e : List UInt64) : stageT (En (tTm1 tw pl)) 100 ((flat (scopeOf Tryz.f150)).take 3) (mkSt 31 [(1, inV 0 e), (2, ptrV 1), (4, ptrV 2)] [inHE eU64 e, own 146 (Row.cs x), own 146 (zeros 18)]) [1, 2, 4, 5, 6] [0, 1, 2, 3] =
    .vc (0 + e.length * 1 ≤ (eU64.body e).cells.length ∧ 0 < 1) (.leaf (tmSt1 e x (zeros 18) (IntKind.i64.wrap (64 * e.length)))) := by kernel_rfl
theorem tm1_iter (tw : Sp1 → Sp1) (pl : Sp1 → Sp1 → Sp1) (x o : Sp1) (e : List UInt64) (z : Int) : iterT (En (tTm1 tw pl)) ks1.rs.out 100 Tryz.f150 ((flat (scopeOf Tryz.f150)).drop 3) (tmSt1 e x (Row.cs o) z) [1, 2, 4, 5, 6] [0, 1, 2, 3] =
    .br (decide (IntKind.i64.wrap (z - 1) < 0)) (.leaf (.inr (some (o, .t))))
      (.vc ((0 ≤ quoZ z ∧ quoZ z < e.length) ∧ 0 + e.length * 1 ≤ (eU64.body e).cells.length ∧ 0 < 1) (.vc (0 + (quoZ z).toNat * 1 < e.length)
        (.br (bitZ e z) (.leaf (.inl (.goto 0, tmSt1 e x (Row.cs (pl (tw o) x)) (IntKind.i64.wrap (z - 1))))) (.leaf (.inl (.goto 0, tmSt1 e x (Row.cs (tw o)) (IntKind.i64.wrap (z - 1)))))))) := by kernel_rfl
theorem tm1_first (tw : Sp1 → Sp1) (pl : Sp1 → Sp1 → Sp1) (x : Sp1) (e : List UInt64) (z : Int) : iterT (En (tTm1 tw pl)) ks1.rs.out 100 Tryz.f150 ((flat (scopeOf Tryz.f150)).drop 3) (tmSt1 e x (zeros 18) z) [1, 2, 4, 5, 6] [0, 1, 2, 3] =
    .br (decide (IntKind.i64.wrap (z - 1) < 0)) (.leaf (.inr (some (zeroSp, .t))))
      (.vc ((0 ≤ quoZ z ∧ quoZ z < e.length) ∧ 0 + e.length * 1 ≤ (eU64.body e).cells.length ∧ 0 < 1) (.vc (0 + (quoZ z).toNat * 1 < e.length)
        (.br (bitZ e z) (.leaf (.inl (.goto 0, tmSt1 e x (Row.cs (pl (tw zeroSp) x)) (IntKind.i64.wrap (z - 1))))) (.leaf (.inl (.goto 0, tmSt1 e x (Row.cs (tw zeroSp)) (IntKind.i64.wrap (z - 1)))))))) := by kernel_rfl
def outC1 (b : Bool) (o : Sp1) : List Cell := match b with
  | true => zeros 18
  | false => Row.cs o
def timesG1 (x : Sp1) (e : List UInt64) : Sp1 := dblG twiceG1 (fun o => plusG1 o x) e (64 * e.length) zeroSp
abbrev Tm1Ok (x : Sp1) (e : List UInt64) : Type := { q : Bool × Int × Sp1 // 0 ≤ q.2.1 ∧ q.2.1 ≤ 64 * e.length ∧ (q.1 = true → q.2.2 = zeroSp) ∧ dblG twiceG1 (fun o => plusG1 o x) e q.2.1.toNat q.2.2 = timesG1 x e }
def tm1I (x : Sp1) (e : List UInt64) (q : Tm1Ok x e) : St := tmSt1 e x (outC1 q.1.1 q.1.2.2) q.1.2.1
theorem tm1_iterB (x : Sp1) (e : List UInt64) (b : Bool) (o : Sp1) (hb : b = true → o = zeroSp) (z : Int) : iterT (En (tTm1 twiceG1 plusG1)) ks1.rs.out 100 Tryz.f150 ((flat (scopeOf Tryz.f150)).drop 3) (tmSt1 e x (outC1 b o) z) [1, 2, 4, 5, 6] [0, 1, 2, 3] =
    .br (decide (IntKind.i64.wrap (z - 1) < 0)) (.leaf (.inr (some (o, .t))))
      (.vc ((0 ≤ quoZ z ∧ quoZ z < e.length) ∧ 0 + e.length * 1 ≤ (eU64.body e).cells.length ∧ 0 < 1) (.vc (0 + (quoZ z).toNat * 1 < e.length)
        (.br (bitZ e z) (.leaf (.inl (.goto 0, tmSt1 e x (Row.cs (plusG1 (twiceG1 o) x)) (IntKind.i64.wrap (z - 1))))) (.leaf (.inl (.goto 0, tmSt1 e x (Row.cs (twiceG1 o)) (IntKind.i64.wrap (z - 1)))))))) := by
  cases b with
  | true =>
    rw [hb rfl]
    exact tm1_first twiceG1 plusG1 x e z
  | false => exact tm1_iter twiceG1 plusG1 x o e z
theorem timesG1_ok : CallOk Tryz.prog 150 (K2 ks1.arg aL ks1.rs.res timesG1) :=
  Go.Proofs.YtbbnabednkopdaaGreat.G2 (E := En (tTm1 twiceG1 plusG1)) Tryz.func150 (c := codeOf Tryz.f150) (by kernel_rfl) (bodied Tryz.func150 (by kernel_rfl) (by kernel_rfl)) ks1.inp iL ks1.rs.out timesG1 fun x e _ he => by
    have hE : EnvOk (En (tTm1 twiceG1 plusG1)) := En_ok (.cons twiceG1_ok (.cons plusG1_ok .nil))
    have he : e.length < 1125899906842624 := he
    have hw : IntKind.i64.wrap (64 * (e.length : Int)) = 64 * (e.length : Int) := IntWalk.i64_in _ (by omega)
    refine DoesL.stageE hE 100 1 [1, 2, 4] [0, 1, 2] (tm1_front _ x e) ?_
    refine DoesL.scopeFn (body := scopeOf Tryz.f150) (rest := restOf Tryz.f150) (tail := []) (l := 0) hE (by kernel_rfl) (by kernel_rfl) 100 3 (by kernel_rfl) [1, 2, 4, 5, 6] [0, 1, 2, 3] (tm1I x e) (fun q => q.1.2.1.toNat)
      ⟨(true, 64 * (e.length : Int), zeroSp), by simp only []; omega, by simp only []; omega, fun _ => rfl, by rw [show ((true, 64 * (e.length : Int), zeroSp) : Bool × Int × Sp1).2.1.toNat = 64 * e.length by simp only []; omega]; simp only [timesG1]⟩
      (tm1_start twiceG1 plusG1 x e) ⟨⟨by rw [cells_len]; omega, by decide⟩, fun _ => by rw [hw]; exact Tree.sat_leaf (by simp only [tm1I, outC1])⟩ fun q => ?_
    obtain ⟨⟨b, z, o⟩, h0, h1, hb, h2⟩ := q
    simp only [] at h0 h1 h2 hb
    have hz : IntKind.i64.wrap (z - 1) = z - 1 := IntWalk.i64_in _ (by omega)
    refine DoesL.iter hE 100 [1, 2, 4, 5, 6] [0, 1, 2, 3] (tm1_iterB x e b o hb z) ?_
    rw [hz]
    refine ⟨fun h => ?_, fun h => ?_⟩
    · simp only [decide_eq_true_eq] at h
      obtain rfl : z = 0 := by omega
      exact ⟨.t, by rw [← h2]; rfl, trivial⟩
    · simp only [decide_eq_false_iff_not] at h
      obtain ⟨n, rfl⟩ : ∃ n : Nat, z = (n : Int) + 1 := ⟨(z - 1).toNat, by omega⟩
      rw [quoZ_nat n (by omega), bitZ_nat e n (by omega)]
      rw [show ((n : Int) + 1).toNat = n + 1 by omega] at h2
      simp only [dblG] at h2
      refine ⟨⟨⟨by omega, by omega⟩, by rw [cells_len]; omega, by decide⟩, fun _ => ⟨by omega, fun _ => ⟨fun h3 => ?_, fun h3 => ?_⟩⟩⟩
      all_goals
        have hn : ((n : Int) + 1 - 1).toNat = n := by omega
        rw [h3] at h2
        simp only [] at h2
      · refine ⟨rfl, ⟨(false, (n : Int) + 1 - 1, plusG1 (twiceG1 o) x), ?_, ?_, ?_, ?_⟩, ?_, by simp only [tm1I, outC1]⟩
        · show 0 ≤ (n : Int) + 1 - 1; omega
        · show (n : Int) + 1 - 1 ≤ 64 * e.length; omega
        · intro h; cases h
        · simpa only [hn] using h2
        · show ((n : Int) + 1 - 1).toNat < ((n : Int) + 1).toNat; omega
      · refine ⟨rfl, ⟨(false, (n : Int) + 1 - 1, twiceG1 o), ?_, ?_, ?_, ?_⟩, ?_, by simp only [tm1I, outC1]⟩
        · show 0 ≤ (n : Int) + 1 - 1; omega
        · show (n : Int) + 1 - 1 ≤ 64 * e.length; omega
        · intro h; cases h
        · simpa only [hn] using h2
        · show ((n : Int) + 1 - 1).toNat < ((n : Int) + 1).toNat; omega
def inG1_G (f0 : Pg1 → Bool) (f1 : Fp → Bool) (f2 : Sp1 → List UInt64 → Sp1) (f3 : Pg1 → Sp1) (f4 : Fr) (a : Pg1) : Bool := (match (f0 a) with | true => ((f1 (f2 (f3 a) [f4.l0, f4.l1, f4.l2, f4.l3]).z)) | false => ((false)))
def inG1_T (f0 : Pg1 → Bool) (f1 : Fp → Bool) (f2 : Sp1 → List UInt64 → Sp1) (f3 : Pg1 → Sp1) (f4 : Fr) (a : Pg1) : Tree (Option (Bool)) :=
  (.br (f0 a)
    (.leaf (some ((f1 (f2 (f3 a) [f4.l0, f4.l1, f4.l2, f4.l3]).z))))
    (.leaf (some ((false)))))
theorem inG1_run (f0 : Pg1 → Bool) (f1 : Fp → Bool) (f2 : Sp1 → List UInt64 → Sp1) (f3 : Pg1 → Sp1) (f4 : Fr) (a : Pg1) : plainRun (Ens [(148, K1 (kRow Pg1).arg kBool.rs.res f0), (149, K1 (kRow Fp).arg kBool.rs.res f1), (150, K2 ks1.arg aL ks1.rs.res f2), (151, K1 (kRow Pg1).arg (kRow Sp1).rs.res f3), (152, K0 (rS4 27) f4)] [152]) kBool.rs 300 Tryz.f97 [.one ((kRow Pg1).av a)] = inG1_T f0 f1 f2 f3 f4 a := by kernel_rfl
theorem inG1_sat (f0 : Pg1 → Bool) (f1 : Fp → Bool) (f2 : Sp1 → List UInt64 → Sp1) (f3 : Pg1 → Sp1) (f4 : Fr) (a : Pg1) : (inG1_T f0 f1 f2 f3 f4 a).sat fun q => q = some (inG1_G f0 f1 f2 f3 f4 a) := ⟨fun h0 => (show some _ = some _ from congrArg some (by unfold inG1_G; rw [h0])), fun h0 => (show some _ = some _ from congrArg some (by unfold inG1_G; rw [h0]))⟩
def inG1 (a : Pg1) : Bool := inG1_G onG1 zeroG1 timesG1 liftG1 rLimbs a
theorem inG1_ok : CallOk Tryz.prog 97 (K1 (kRow Pg1).arg kBool.rs.res inG1) :=
  P1 (Ens_ok (.cons onG1_ok (.cons zeroG1_ok (.cons timesG1_ok (.cons liftG1_ok (.cons R4_ok .nil)))))) Tryz.func97 (bodied Tryz.func97 (by kernel_rfl) (by kernel_rfl)) 300 (kRow Pg1) kBool.rs inG1 (inG1_run onG1 zeroG1 timesG1 liftG1 rLimbs) (inG1_sat onG1 zeroG1 timesG1 liftG1 rLimbs)
end Go.Proofs.YtbbnabednkopdaaGreat

set_option linter.unusedSimpArgs false
set_option linter.unusedVariables false
namespace Go.Proofs.YtbbnabednkopdaaGreat
open Go.RowKit
abbrev ks2 : Kd Fp6 := kRow Fp6
def tmSt2 (e : List UInt64) (x : Fp6) (cs : List Cell) (z : Int) : St := mkSt 31 [(1, inV 0 e), (2, ptrV 1), (4, ptrV 2), (5, ptrV 3), (6, vI z)] [inHE eU64 e, own 154 (Row.cs x), own 154 (zeros 36), own 154 cs]
def tTm2 (tw : Fp6 → Fp6) (pl : Fp6 → Fp6 → Fp6) : Table := [(198, K1 ks2.arg ks2.rs.res tw), (199, K2 ks2.arg ks2.arg ks2.rs.res pl)]
theorem tm2_front (T : Table) (x : Fp6) (e : List UInt64) : stageT (En T) 100 ((flat (codeOf Tryz.f162)).take 1) (startSt Tryz.f162 [.one (ks2.av x), iL.av 0 e] [inHE eU64 e]) [1, 2, 4] [0, 1, 2] =
    .leaf (mkSt 31 [(1, inV 0 e), (2, ptrV 1), (4, ptrV 2)] [inHE eU64 e, own 154 (Row.cs x), own 154 (zeros 36)]) := by kernel_rfl
theorem tm2_start (tw : Fp6 → Fp6) (pl : Fp6 → Fp6 → Fp6) (x : Fp6) (e : List UInt64) : stageT (En (tTm2 tw pl)) 100 ((flat (scopeOf Tryz.f162)).take 3) (mkSt 31 [(1, inV 0 e), (2, ptrV 1), (4, ptrV 2)] [inHE eU64 e, own 154 (Row.cs x), own 154 (zeros 36)]) [1, 2, 4, 5, 6] [0, 1, 2, 3] =
    .vc (0 + e.length * 1 ≤ (eU64.body e).cells.length ∧ 0 < 1) (.leaf (tmSt2 e x (zeros 36) (IntKind.i64.wrap (64 * e.length)))) := by kernel_rfl
theorem tm2_iter (tw : Fp6 → Fp6) (pl : Fp6 → Fp6 → Fp6) (x o : Fp6) (e : List UInt64) (z : Int) : iterT (En (tTm2 tw pl)) ks2.rs.out 100 Tryz.f162 ((flat (scopeOf Tryz.f162)).drop 3) (tmSt2 e x (Row.cs o) z) [1, 2, 4, 5, 6] [0, 1, 2, 3] =
    .br (decide (IntKind.i64.wrap (z - 1) < 0)) (.leaf (.inr (some (o, .t))))
      (.vc ((0 ≤ quoZ z ∧ quoZ z < e.length) ∧ 0 + e.length * 1 ≤ (eU64.body e).cells.length ∧ 0 < 1) (.vc (0 + (quoZ z).toNat * 1 < e.length)
        (.br (bitZ e z) (.leaf (.inl (.goto 0, tmSt2 e x (Row.cs (pl (tw o) x)) (IntKind.i64.wrap (z - 1))))) (.leaf (.inl (.goto 0, tmSt2 e x (Row.cs (tw o)) (IntKind.i64.wrap (z - 1)))))))) := by kernel_rfl
theorem tm2_first (tw : Fp6 → Fp6) (pl : Fp6 → Fp6 → Fp6) (x : Fp6) (e : List UInt64) (z : Int) : iterT (En (tTm2 tw pl)) ks2.rs.out 100 Tryz.f162 ((flat (scopeOf Tryz.f162)).drop 3) (tmSt2 e x (zeros 36) z) [1, 2, 4, 5, 6] [0, 1, 2, 3] =
    .br (decide (IntKind.i64.wrap (z - 1) < 0)) (.leaf (.inr (some (zeroFp6, .t))))
      (.vc ((0 ≤ quoZ z ∧ quoZ z < e.length) ∧ 0 + e.length * 1 ≤ (eU64.body e).cells.length ∧ 0 < 1) (.vc (0 + (quoZ z).toNat * 1 < e.length)
        (.br (bitZ e z) (.leaf (.inl (.goto 0, tmSt2 e x (Row.cs (pl (tw zeroFp6) x)) (IntKind.i64.wrap (z - 1))))) (.leaf (.inl (.goto 0, tmSt2 e x (Row.cs (tw zeroFp6)) (IntKind.i64.wrap (z - 1)))))))) := by kernel_rfl
def outC2 (b : Bool) (o : Fp6) : List Cell := match b with
  | true => zeros 36
  | false => Row.cs o
def timesG2 (x : Fp6) (e : List UInt64) : Fp6 := dblG twiceG2 (fun o => plusG2 o x) e (64 * e.length) zeroFp6
abbrev Tm2Ok (x : Fp6) (e : List UInt64) : Type := { q : Bool × Int × Fp6 // 0 ≤ q.2.1 ∧ q.2.1 ≤ 64 * e.length ∧ (q.1 = true → q.2.2 = zeroFp6) ∧ dblG twiceG2 (fun o => plusG2 o x) e q.2.1.toNat q.2.2 = timesG2 x e }
def tm2I (x : Fp6) (e : List UInt64) (q : Tm2Ok x e) : St := tmSt2 e x (outC2 q.1.1 q.1.2.2) q.1.2.1
theorem tm2_iterB (x : Fp6) (e : List UInt64) (b : Bool) (o : Fp6) (hb : b = true → o = zeroFp6) (z : Int) : iterT (En (tTm2 twiceG2 plusG2)) ks2.rs.out 100 Tryz.f162 ((flat (scopeOf Tryz.f162)).drop 3) (tmSt2 e x (outC2 b o) z) [1, 2, 4, 5, 6] [0, 1, 2, 3] =
    .br (decide (IntKind.i64.wrap (z - 1) < 0)) (.leaf (.inr (some (o, .t))))
      (.vc ((0 ≤ quoZ z ∧ quoZ z < e.length) ∧ 0 + e.length * 1 ≤ (eU64.body e).cells.length ∧ 0 < 1) (.vc (0 + (quoZ z).toNat * 1 < e.length)
        (.br (bitZ e z) (.leaf (.inl (.goto 0, tmSt2 e x (Row.cs (plusG2 (twiceG2 o) x)) (IntKind.i64.wrap (z - 1))))) (.leaf (.inl (.goto 0, tmSt2 e x (Row.cs (twiceG2 o)) (IntKind.i64.wrap (z - 1)))))))) := by
  cases b with
  | true =>
    rw [hb rfl]
    exact tm2_first twiceG2 plusG2 x e z
  | false => exact tm2_iter twiceG2 plusG2 x o e z
theorem timesG2_ok : CallOk Tryz.prog 162 (K2 ks2.arg aL ks2.rs.res timesG2) :=
  Go.Proofs.YtbbnabednkopdaaGreat.G2 (E := En (tTm2 twiceG2 plusG2)) Tryz.func162 (c := codeOf Tryz.f162) (by kernel_rfl) (bodied Tryz.func162 (by kernel_rfl) (by kernel_rfl)) ks2.inp iL ks2.rs.out timesG2 fun x e _ he => by
    have hE : EnvOk (En (tTm2 twiceG2 plusG2)) := En_ok (.cons twiceG2_ok (.cons plusG2_ok .nil))
    have he : e.length < 1125899906842624 := he
    have hw : IntKind.i64.wrap (64 * (e.length : Int)) = 64 * (e.length : Int) := IntWalk.i64_in _ (by omega)
    refine DoesL.stageE hE 100 1 [1, 2, 4] [0, 1, 2] (tm2_front _ x e) ?_
    refine DoesL.scopeFn (body := scopeOf Tryz.f162) (rest := restOf Tryz.f162) (tail := []) (l := 0) hE (by kernel_rfl) (by kernel_rfl) 100 3 (by kernel_rfl) [1, 2, 4, 5, 6] [0, 1, 2, 3] (tm2I x e) (fun q => q.1.2.1.toNat)
      ⟨(true, 64 * (e.length : Int), zeroFp6), by simp only []; omega, by simp only []; omega, fun _ => rfl, by rw [show ((true, 64 * (e.length : Int), zeroFp6) : Bool × Int × Fp6).2.1.toNat = 64 * e.length by simp only []; omega]; simp only [timesG2]⟩
      (tm2_start twiceG2 plusG2 x e) ⟨⟨by rw [cells_len]; omega, by decide⟩, fun _ => by rw [hw]; exact Tree.sat_leaf (by simp only [tm2I, outC2])⟩ fun q => ?_
    obtain ⟨⟨b, z, o⟩, h0, h1, hb, h2⟩ := q
    simp only [] at h0 h1 h2 hb
    have hz : IntKind.i64.wrap (z - 1) = z - 1 := IntWalk.i64_in _ (by omega)
    refine DoesL.iter hE 100 [1, 2, 4, 5, 6] [0, 1, 2, 3] (tm2_iterB x e b o hb z) ?_
    rw [hz]
    refine ⟨fun h => ?_, fun h => ?_⟩
    · simp only [decide_eq_true_eq] at h
      obtain rfl : z = 0 := by omega
      exact ⟨.t, by rw [← h2]; rfl, trivial⟩
    · simp only [decide_eq_false_iff_not] at h
      obtain ⟨n, rfl⟩ : ∃ n : Nat, z = (n : Int) + 1 := ⟨(z - 1).toNat, by omega⟩
      rw [quoZ_nat n (by omega), bitZ_nat e n (by omega)]
      rw [show ((n : Int) + 1).toNat = n + 1 by omega] at h2
      simp only [dblG] at h2
      refine ⟨⟨⟨by omega, by omega⟩, by rw [cells_len]; omega, by decide⟩, fun _ => ⟨by omega, fun _ => ⟨fun h3 => ?_, fun h3 => ?_⟩⟩⟩
      all_goals
        have hn : ((n : Int) + 1 - 1).toNat = n := by omega
        rw [h3] at h2
        simp only [] at h2
      · refine ⟨rfl, ⟨(false, (n : Int) + 1 - 1, plusG2 (twiceG2 o) x), ?_, ?_, ?_, ?_⟩, ?_, by simp only [tm2I, outC2]⟩
        · show 0 ≤ (n : Int) + 1 - 1; omega
        · show (n : Int) + 1 - 1 ≤ 64 * e.length; omega
        · intro h; cases h
        · simpa only [hn] using h2
        · show ((n : Int) + 1 - 1).toNat < ((n : Int) + 1).toNat; omega
      · refine ⟨rfl, ⟨(false, (n : Int) + 1 - 1, twiceG2 o), ?_, ?_, ?_, ?_⟩, ?_, by simp only [tm2I, outC2]⟩
        · show 0 ≤ (n : Int) + 1 - 1; omega
        · show (n : Int) + 1 - 1 ≤ 64 * e.length; omega
        · intro h; cases h
        · simpa only [hn] using h2
        · show ((n : Int) + 1 - 1).toNat < ((n : Int) + 1).toNat; omega
def inG2_G (f0 : Pg2 → Bool) (f1 : Fp2 → Bool) (f2 : Fp6 → List UInt64 → Fp6) (f3 : Pg2 → Fp6) (f4 : Fr) (a : Pg2) : Bool := (match (f0 a) with | true => ((f1 (f2 (f3 a) [f4.l0, f4.l1, f4.l2, f4.l3]).c2)) | false => ((false)))
def inG2_T (f0 : Pg2 → Bool) (f1 : Fp2 → Bool) (f2 : Fp6 → List UInt64 → Fp6) (f3 : Pg2 → Fp6) (f4 : Fr) (a : Pg2) : Tree (Option (Bool)) :=
  (.br (f0 a)
    (.leaf (some ((f1 (f2 (f3 a) [f4.l0, f4.l1, f4.l2, f4.l3]).c2))))
    (.leaf (some ((false)))))
theorem inG2_run (f0 : Pg2 → Bool) (f1 : Fp2 → Bool) (f2 : Fp6 → List UInt64 → Fp6) (f3 : Pg2 → Fp6) (f4 : Fr) (a : Pg2) : plainRun (Ens [(160, K1 (kRow Pg2).arg kBool.rs.res f0), (161, K1 (kRow Fp2).arg kBool.rs.res f1), (162, K2 ks2.arg aL ks2.rs.res f2), (163, K1 (kRow Pg2).arg (kRow Fp6).rs.res f3), (152, K0 (rS4 27) f4)] [152]) kBool.rs 300 Tryz.f104 [.one ((kRow Pg2).av a)] = inG2_T f0 f1 f2 f3 f4 a := by kernel_rfl
theorem inG2_sat (f0 : Pg2 → Bool) (f1 : Fp2 → Bool) (f2 : Fp6 → List UInt64 → Fp6) (f3 : Pg2 → Fp6) (f4 : Fr) (a : Pg2) : (inG2_T f0 f1 f2 f3 f4 a).sat fun q => q = some (inG2_G f0 f1 f2 f3 f4 a) := ⟨fun h0 => (show some _ = some _ from congrArg some (by unfold inG2_G; rw [h0])), fun h0 => (show some _ = some _ from congrArg some (by unfold inG2_G; rw [h0]))⟩
def inG2 (a : Pg2) : Bool := inG2_G onG2 zeroG2 timesG2 liftG2 rLimbs a
theorem inG2_ok : CallOk Tryz.prog 104 (K1 (kRow Pg2).arg kBool.rs.res inG2) :=
  P1 (Ens_ok (.cons onG2_ok (.cons zeroG2_ok (.cons timesG2_ok (.cons liftG2_ok (.cons R4_ok .nil)))))) Tryz.func104 (bodied Tryz.func104 (by kernel_rfl) (by kernel_rfl)) 300 (kRow Pg2) kBool.rs inG2 (inG2_run onG2 zeroG2 timesG2 liftG2 rLimbs) (inG2_sat onG2 zeroG2 timesG2 liftG2 rLimbs)
end Go.Proofs.YtbbnabednkopdaaGreat

set_option linter.unusedSimpArgs false
set_option linter.unusedVariables false
namespace Go.Proofs.YtbbnabednkopdaaGreat
open Go.RowKit
abbrev kp6 : Kd Fp6 := kRow Fp6
noncomputable abbrev tmRC : List Code := flat (codeOf Tryz.f68)
noncomputable abbrev tmRB : Code := loopAt Tryz.f68 0
abbrev Kadd5 (F : Fp6 → Fp6 → Bool → Fp6) : Contract := K3 kp6.arg kp6.arg kBool.arg kp6.rs.res F
noncomputable abbrev tmRE (o : Fp6) (aF : Fp6 → Fp6 → Bool → Fp6) (bF : List UInt64 → Nat → Bool) : Env := En [(127, K0 kp6.rs.res o), (71, Kadd5 aF), (61, Kbit bF)]
def tmRSt (e : List UInt64) (b : Bool) (p x : Fp6) (z : Int) : St := mkSt 30 [(1, inV 0 e), (2, .one (kBool.av b)), (3, ptrV 1), (6, ptrV 2), (7, ptrV 3), (8, vI z)] [inHE eU64 e, own 101 (Row.cs p), own 101 (zeros 36), own 101 (Row.cs x)]
theorem tmR_start (o : Fp6) (aF : Fp6 → Fp6 → Bool → Fp6) (bF : List UInt64 → Nat → Bool) (p : Fp6) (e : List UInt64) (b : Bool) : stageT (tmRE o aF bF) 100 (tmRC.take 3) (startSt Tryz.f68 [.one (kp6.av p), iL.av 0 e, .one (kBool.av b)] [inHE eU64 e]) [1, 2, 3, 6, 7, 8] [0, 1, 2, 3] =
  (.vc (0 + e.length * 1 ≤ (List.map EK.u64.cell e).length ∧ 0 < 1)
    (.leaf (mkSt 30 [(1, .one (.c (.slc 0 0 (e.length) 1 (.of 0) false))), (2, .one (.c (.bool (b)))), (3, .one (.c (.ptr 1 0))), (6, .one (.c (.ptr 2 0))), (7, .one (.c (.ptr 3 0))), (8, .one (.c (.int .i64 (IntKind.i64.wrap (IntKind.i64.wrap (64 * (↑e.length : Int)) - 1)))))] [.live ⟨false, 0, 1, (.elts .u64 (e : List UInt64)), false⟩, .live ⟨true, 101, 0, (.row (Row.cs (p : Fp6))), false⟩, .live ⟨true, 101, 0, (.row [(.lit .u64 0), (.lit .u64 0), (.lit .u64 0), (.lit .u64 0), (.lit .u64 0), (.lit .u64 0), (.lit .u64 0), (.lit .u64 0), (.lit .u64 0), (.lit .u64 0), (.lit .u64 0), (.lit .u64 0), (.lit .u64 0), (.lit .u64 0), (.lit .u64 0), (.lit .u64 0), (.lit .u64 0), (.lit .u64 0), (.lit .u64 0), (.lit .u64 0), (.lit .u64 0), (.lit .u64 0), (.lit .u64 0), (.lit .u64 0), (.lit .u64 0), (.lit .u64 0), (.lit .u64 0), (.lit .u64 0), (.lit .u64 0), (.lit .u64 0), (.lit .u64 0), (.lit .u64 0), (.lit .u64 0), (.lit .u64 0), (.lit .u64 0), (.lit .u64 0)]), false⟩, .live ⟨true, 101, 0, (.row (Row.cs (o : Fp6))), false⟩]))) := by kernel_rfl
theorem tmR_round (o : Fp6) (aF : Fp6 → Fp6 → Bool → Fp6) (bF : List UInt64 → Nat → Bool) (p x : Fp6) (e : List UInt64) (b : Bool) (z : Int) : roundT (tmRE o aF bF) 100 tmRB (tmRSt e b p x z) (same [1, 2, 3, 6, 7, 8] [0, 1, 2, 3]) =
  (.br (decide (z ≥ 0))
    (.vc (((0 + e.length ≤ e.length ∧ e.length < 1125899906842624 ∧ 0 = 0 ∧ 1 = 1) ∧ 0 ≤ z) ∧ bitIn (List.take e.length (List.drop 0 e)) z.toNat)
      (.br (bF (List.take e.length (List.drop 0 e)) z.toNat)
        (.leaf ((.normal, mkSt 30 [(1, .one (.c (.slc 0 0 (e.length) 1 (.of 0) false))), (2, .one (.c (.bool (b)))), (3, .one (.c (.ptr 1 0))), (6, .one (.c (.ptr 2 0))), (7, .one (.c (.ptr 3 0))), (8, .one (.c (.int .i64 (IntKind.i64.wrap (z - 1)))))] [.live ⟨false, 0, 1, (.elts .u64 (e : List UInt64)), false⟩, .live ⟨true, 101, 0, (.row (Row.cs (p : Fp6))), false⟩, .live ⟨true, 101, 0, (.row [(.lit .u64 0), (.lit .u64 0), (.lit .u64 0), (.lit .u64 0), (.lit .u64 0), (.lit .u64 0), (.lit .u64 0), (.lit .u64 0), (.lit .u64 0), (.lit .u64 0), (.lit .u64 0), (.lit .u64 0), (.lit .u64 0), (.lit .u64 0), (.lit .u64 0), (.lit .u64 0), (.lit .u64 0), (.lit .u64 0), (.lit .u64 0), (.lit .u64 0), (.lit .u64 0), (.lit .u64 0), (.lit .u64 0), (.lit .u64 0), (.lit .u64 0), (.lit .u64 0), (.lit .u64 0), (.lit .u64 0), (.lit .u64 0), (.lit .u64 0), (.lit .u64 0), (.lit .u64 0), (.lit .u64 0), (.lit .u64 0), (.lit .u64 0), (.lit .u64 0)]), false⟩, .live ⟨true, 101, 0, (.row (Row.cs (aF (aF x x b) p b : Fp6))), false⟩])))
        (.leaf ((.normal, mkSt 30 [(1, .one (.c (.slc 0 0 (e.length) 1 (.of 0) false))), (2, .one (.c (.bool (b)))), (3, .one (.c (.ptr 1 0))), (6, .one (.c (.ptr 2 0))), (7, .one (.c (.ptr 3 0))), (8, .one (.c (.int .i64 (IntKind.i64.wrap (z - 1)))))] [.live ⟨false, 0, 1, (.elts .u64 (e : List UInt64)), false⟩, .live ⟨true, 101, 0, (.row (Row.cs (p : Fp6))), false⟩, .live ⟨true, 101, 0, (.row [(.lit .u64 0), (.lit .u64 0), (.lit .u64 0), (.lit .u64 0), (.lit .u64 0), (.lit .u64 0), (.lit .u64 0), (.lit .u64 0), (.lit .u64 0), (.lit .u64 0), (.lit .u64 0), (.lit .u64 0), (.lit .u64 0), (.lit .u64 0), (.lit .u64 0), (.lit .u64 0), (.lit .u64 0), (.lit .u64 0), (.lit .u64 0), (.lit .u64 0), (.lit .u64 0), (.lit .u64 0), (.lit .u64 0), (.lit .u64 0), (.lit .u64 0), (.lit .u64 0), (.lit .u64 0), (.lit .u64 0), (.lit .u64 0), (.lit .u64 0), (.lit .u64 0), (.lit .u64 0), (.lit .u64 0), (.lit .u64 0), (.lit .u64 0), (.lit .u64 0)]), false⟩, .live ⟨true, 101, 0, (.row (Row.cs (aF x x b : Fp6))), false⟩])))))
    (.leaf ((.exit 0, mkSt 30 [(1, .one (.c (.slc 0 0 (e.length) 1 (.of 0) false))), (2, .one (.c (.bool (b)))), (3, .one (.c (.ptr 1 0))), (6, .one (.c (.ptr 2 0))), (7, .one (.c (.ptr 3 0))), (8, .one (.c (.int .i64 (z))))] [.live ⟨false, 0, 1, (.elts .u64 (e : List UInt64)), false⟩, .live ⟨true, 101, 0, (.row (Row.cs (p : Fp6))), false⟩, .live ⟨true, 101, 0, (.row [(.lit .u64 0), (.lit .u64 0), (.lit .u64 0), (.lit .u64 0), (.lit .u64 0), (.lit .u64 0), (.lit .u64 0), (.lit .u64 0), (.lit .u64 0), (.lit .u64 0), (.lit .u64 0), (.lit .u64 0), (.lit .u64 0), (.lit .u64 0), (.lit .u64 0), (.lit .u64 0), (.lit .u64 0), (.lit .u64 0), (.lit .u64 0), (.lit .u64 0), (.lit .u64 0), (.lit .u64 0), (.lit .u64 0), (.lit .u64 0), (.lit .u64 0), (.lit .u64 0), (.lit .u64 0), (.lit .u64 0), (.lit .u64 0), (.lit .u64 0), (.lit .u64 0), (.lit .u64 0), (.lit .u64 0), (.lit .u64 0), (.lit .u64 0), (.lit .u64 0)]), false⟩, .live ⟨true, 101, 0, (.row (Row.cs (x : Fp6))), false⟩])))) := by kernel_rfl
theorem tmR_end (o : Fp6) (aF : Fp6 → Fp6 → Bool → Fp6) (bF : List UInt64 → Nat → Bool) (p x : Fp6) (e : List UInt64) (b : Bool) (z : Int) : endT (tmRE o aF bF) kp6.rs.out 100 Tryz.f68 (tmRC.drop 4) (tmRSt e b p x z) =
  (.leaf (some ((x, .t)))) := by kernel_rfl
def timesR (p : Fp6) (e : List UInt64) (b : Bool) : Fp6 := dblG (fun x => addS5 x x b) (fun x => addS5 x p b) e (64 * e.length) none5
abbrev TmROk (p : Fp6) (e : List UInt64) (b : Bool) : Type := { q : Int × Fp6 // -1 ≤ q.1 ∧ q.1 < 64 * e.length ∧ dblG (fun x => addS5 x x b) (fun x => addS5 x p b) e (q.1 + 1).toNat q.2 = timesR p e b }
theorem timesR_ok : CallOk Tryz.prog 68 (K3 kp6.arg aL kBool.arg kp6.rs.res timesR) :=
  Go.Proofs.YtbbnabednkopdaaGreat.G3 (E := tmRE none5 addS5 bitAt) Tryz.func68 (c := codeOf Tryz.f68) (by kernel_rfl) (bodied Tryz.func68 (by kernel_rfl) (by kernel_rfl)) kp6.inp iL kBool.inp kp6.rs.out timesR fun p e b _ he _ => by
    have hE : EnvOk (tmRE none5 addS5 bitAt) := En_ok (.cons none5_ok (.cons addS5_ok (.cons bit5_ok .nil)))
    have he : e.length < 1125899906842624 := he
    refine DoesL.stageE hE 100 3 _ _ (tmR_start none5 addS5 bitAt p e b) ⟨vcLen e, fun _ => ?_⟩
    have hw : IntKind.i64.wrap (IntKind.i64.wrap (64 * (e.length : Int)) - 1) = 64 * (e.length : Int) - 1 := by rw [IntWalk.i64_in (64 * (e.length : Int)) (by omega), IntWalk.i64_in _ (by omega)]
    rw [hw]
    refine DoesL.blockLoop (B := tmRB) (rest := tmRC.drop 4) (id := 0) (by kernel_rfl) (fun q : TmROk p e b => tmRSt e b p q.1.2 q.1.1) (fun q => (q.1.1 + 1).toNat) ⟨(64 * (e.length : Int) - 1, none5), by simp only []; omega, by simp only []; omega, by
      simp only []
      rw [show (64 * (e.length : Int) - 1 + 1).toNat = 64 * e.length by omega]
      simp only [timesR]⟩ fun q => ?_
    obtain ⟨⟨z, x⟩, h0, h1, h2⟩ := q
    simp only [] at h0 h1 h2
    show Does _ _ (tmRSt e b p x z) _
    refine Does.round hE 100 _ (tmR_round none5 addS5 bitAt p x e b z) ⟨fun h => ?_, fun h => ?_⟩
    · simp only [ge_iff_le, decide_eq_true_eq] at h
      obtain ⟨n, rfl⟩ : ∃ n : Nat, z = (n : Int) := ⟨z.toNat, by omega⟩
      rw [wrap_pred n (by omega), whole, Int.toNat_natCast]
      rw [show ((n : Int) + 1).toNat = n + 1 by omega] at h2
      simp only [dblG] at h2
      refine ⟨⟨⟨okL' he, by omega⟩, by show n < 64 * e.length; omega⟩, fun _ => ⟨fun h3 => ?_, fun h3 => ?_⟩⟩
      all_goals
        have hn : ((n : Int) - 1 + 1).toNat = n := by omega
        rw [h3] at h2
        simp only [] at h2
      · refine ⟨⟨((n : Int) - 1, addS5 (addS5 x x b) p b), ?_, ?_, ?_⟩, ?_, ?_⟩
        · show -1 ≤ (n : Int) - 1; omega
        · show (n : Int) - 1 < 64 * e.length; omega
        · simpa only [hn] using h2
        · show ((n : Int) - 1 + 1).toNat < ((n : Int) + 1).toNat; omega
        · kernel_rfl
      · refine ⟨⟨((n : Int) - 1, addS5 x x b), ?_, ?_, ?_⟩, ?_, ?_⟩
        · show -1 ≤ (n : Int) - 1; omega
        · show (n : Int) - 1 < 64 * e.length; omega
        · simpa only [hn] using h2
        · show ((n : Int) - 1 + 1).toNat < ((n : Int) + 1).toNat; omega
        · kernel_rfl
    · simp only [ge_iff_le, decide_eq_false_iff_not] at h
      obtain rfl : z = -1 := by omega
      exact ⟨rfl, DoesL.ends hE 100 (tmR_end none5 addS5 bitAt p x e b (-1)) (reads_t (by
        rw [show ((-1 : Int) + 1).toNat = 0 from rfl] at h2
        simp only [dblG] at h2
        exact h2))⟩
def in1R_G (f0 : Fp6 → Pg1) (f1 : Fp6 → List UInt64 → Bool → Fp6) (f2 : Pg1 → Fp6) (f3 : Fr) (a : Pg1) : Bool := (((f0 (f1 (f2 a) [f3.l0, f3.l1, f3.l2, f3.l3] true)).inf))
def in1R_T (f0 : Fp6 → Pg1) (f1 : Fp6 → List UInt64 → Bool → Fp6) (f2 : Pg1 → Fp6) (f3 : Fr) (a : Pg1) : Tree (Option (Bool)) :=
  (.leaf (some (((f0 (f1 (f2 a) [f3.l0, f3.l1, f3.l2, f3.l3] true)).inf))))
theorem in1R_run (f0 : Fp6 → Pg1) (f1 : Fp6 → List UInt64 → Bool → Fp6) (f2 : Pg1 → Fp6) (f3 : Fr) (a : Pg1) : plainRun (Ens [(67, K1 (kRow Fp6).arg (kRow Pg1).rs.res f0), (68, K3 kp6.arg aL kBool.arg kp6.rs.res f1), (69, K1 (kRow Pg1).arg (kRow Fp6).rs.res f2), (26, K0 rS4u f3)] [26]) kBool.rs 300 Tryz.f29 [.one ((kRow Pg1).av a)] = in1R_T f0 f1 f2 f3 a := by kernel_rfl
theorem in1R_sat (f0 : Fp6 → Pg1) (f1 : Fp6 → List UInt64 → Bool → Fp6) (f2 : Pg1 → Fp6) (f3 : Fr) (a : Pg1) : (in1R_T f0 f1 f2 f3 a).sat fun q => q = some (in1R_G f0 f1 f2 f3 a) := (show some _ = some _ from rfl)
def in1R (a : Pg1) : Bool := in1R_G to1R timesR of1R rLimbs a
theorem in1R_ok : CallOk Tryz.prog 29 (K1 (kRow Pg1).arg kBool.rs.res in1R) :=
  P1 (Ens_ok (.cons to1R_ok (.cons timesR_ok (.cons of1R_ok (.cons refR_ok .nil))))) Tryz.func29 (bodied Tryz.func29 (by kernel_rfl) (by kernel_rfl)) 300 (kRow Pg1) kBool.rs in1R (in1R_run to1R timesR of1R rLimbs) (in1R_sat to1R timesR of1R rLimbs)
def in2R_G (f0 : Fp6 → Pg2) (f1 : Fp6 → List UInt64 → Bool → Fp6) (f2 : Pg2 → Fp6) (f3 : Fr) (a : Pg2) : Bool := (((f0 (f1 (f2 a) [f3.l0, f3.l1, f3.l2, f3.l3] false)).inf))
def in2R_T (f0 : Fp6 → Pg2) (f1 : Fp6 → List UInt64 → Bool → Fp6) (f2 : Pg2 → Fp6) (f3 : Fr) (a : Pg2) : Tree (Option (Bool)) :=
  (.leaf (some (((f0 (f1 (f2 a) [f3.l0, f3.l1, f3.l2, f3.l3] false)).inf))))
theorem in2R_run (f0 : Fp6 → Pg2) (f1 : Fp6 → List UInt64 → Bool → Fp6) (f2 : Pg2 → Fp6) (f3 : Fr) (a : Pg2) : plainRun (Ens [(75, K1 (kRow Fp6).arg (kRow Pg2).rs.res f0), (68, K3 kp6.arg aL kBool.arg kp6.rs.res f1), (76, K1 (kRow Pg2).arg (kRow Fp6).rs.res f2), (26, K0 rS4u f3)] [26]) kBool.rs 300 Tryz.f106 [.one ((kRow Pg2).av a)] = in2R_T f0 f1 f2 f3 a := by kernel_rfl
theorem in2R_sat (f0 : Fp6 → Pg2) (f1 : Fp6 → List UInt64 → Bool → Fp6) (f2 : Pg2 → Fp6) (f3 : Fr) (a : Pg2) : (in2R_T f0 f1 f2 f3 a).sat fun q => q = some (in2R_G f0 f1 f2 f3 a) := (show some _ = some _ from rfl)
def in2R (a : Pg2) : Bool := in2R_G to2R timesR of2R rLimbs a
theorem in2R_ok : CallOk Tryz.prog 106 (K1 (kRow Pg2).arg kBool.rs.res in2R) :=
  P1 (Ens_ok (.cons to2R_ok (.cons timesR_ok (.cons of2R_ok (.cons refR_ok .nil))))) Tryz.func106 (bodied Tryz.func106 (by kernel_rfl) (by kernel_rfl)) 300 (kRow Pg2) kBool.rs in2R (in2R_run to2R timesR of2R rLimbs) (in2R_sat to2R timesR of2R rLimbs)
end Go.Proofs.YtbbnabednkopdaaGreat

set_option linter.unusedSimpArgs false
set_option linter.unusedVariables false
namespace Go.Proofs.YtbbnabednkopdaaGreat
open Go.RowKit
abbrev aN : Arg Int := kInt.arg.such sizeB
def take1F_T (f0 : List UInt8 → Int → List UInt8 × Bool × Bool × Int) (f1 : List UInt8 → Fp × Int) (f2 : Fp → Fp × Bool) (f3 : Fp → Fp → Fp) (f4 : Fp → Fp → Fp) (f5 : UInt64 → Fp) (f6 : Pg1 → Pg1) (f7 : Pg1 → Bool) (b : List UInt8) : Tree (Option ((Pg1 × Int) × Pr)) :=
  (.vc (((0 + b.length ≤ b.length ∧ b.length < 1125899906842624 ∧ 0 = 0 ∧ 1 = 1) ∧ littleB (List.take b.length (List.drop 0 b))) ∧ sizeB 48)
    (.br ((f0 (List.take b.length (List.drop 0 b)) 48).snd.snd.snd != 0)
      (.leaf (some ((({ x := { l0 := UInt64.ofNat 0, l1 := UInt64.ofNat 0, l2 := UInt64.ofNat 0, l3 := UInt64.ofNat 0, l4 := UInt64.ofNat 0, l5 := UInt64.ofNat 0 }, y := { l0 := UInt64.ofNat 0, l1 := UInt64.ofNat 0, l2 := UInt64.ofNat 0, l3 := UInt64.ofNat 0, l4 := UInt64.ofNat 0, l5 := UInt64.ofNat 0 }, inf := false }, (f0 (List.take b.length (List.drop 0 b)) 48).snd.snd.snd), .t))))
      (.br ((f0 (List.take b.length (List.drop 0 b)) 48).snd.fst)
        (.leaf (some ((({ x := { l0 := UInt64.ofNat 0, l1 := UInt64.ofNat 0, l2 := UInt64.ofNat 0, l3 := UInt64.ofNat 0, l4 := UInt64.ofNat 0, l5 := UInt64.ofNat 0 }, y := { l0 := UInt64.ofNat 0, l1 := UInt64.ofNat 0, l2 := UInt64.ofNat 0, l3 := UInt64.ofNat 0, l4 := UInt64.ofNat 0, l5 := UInt64.ofNat 0 }, inf := true }, 0), .t))))
        (.vc ((0 + (f0 (List.take b.length (List.drop 0 b)) 48).fst.length ≤ (f0 (List.take b.length (List.drop 0 b)) 48).fst.length ∧ (f0 (List.take b.length (List.drop 0 b)) 48).fst.length < 1125899906842624 ∧ 0 = 0 ∧ 1 = 1) ∧ littleB (List.take (f0 (List.take b.length (List.drop 0 b)) 48).fst.length (List.drop 0 (f0 (List.take b.length (List.drop 0 b)) 48).fst)))
          (.br ((f1 (List.take (f0 (List.take b.length (List.drop 0 b)) 48).fst.length (List.drop 0 (f0 (List.take b.length (List.drop 0 b)) 48).fst))).snd != 0)
            (.leaf (some ((({ x := { l0 := UInt64.ofNat 0, l1 := UInt64.ofNat 0, l2 := UInt64.ofNat 0, l3 := UInt64.ofNat 0, l4 := UInt64.ofNat 0, l5 := UInt64.ofNat 0 }, y := { l0 := UInt64.ofNat 0, l1 := UInt64.ofNat 0, l2 := UInt64.ofNat 0, l3 := UInt64.ofNat 0, l4 := UInt64.ofNat 0, l5 := UInt64.ofNat 0 }, inf := false }, (f1 (List.take (f0 (List.take b.length (List.drop 0 b)) 48).fst.length (List.drop 0 (f0 (List.take b.length (List.drop 0 b)) 48).fst))).snd), .t))))
            (.br ((f0 (List.take b.length (List.drop 0 b)) 48).snd.snd.fst)
              (.br (!((f2 (f3 (f4 (f4 (f1 (List.take (f0 (List.take b.length (List.drop 0 b)) 48).fst.length (List.drop 0 (f0 (List.take b.length (List.drop 0 b)) 48).fst))).fst (f1 (List.take (f0 (List.take b.length (List.drop 0 b)) 48).fst.length (List.drop 0 (f0 (List.take b.length (List.drop 0 b)) 48).fst))).fst) (f1 (List.take (f0 (List.take b.length (List.drop 0 b)) 48).fst.length (List.drop 0 (f0 (List.take b.length (List.drop 0 b)) 48).fst))).fst) (f5 (UInt64.ofNat 4)))).snd))
                (.leaf (some ((({ x := { l0 := UInt64.ofNat 0, l1 := UInt64.ofNat 0, l2 := UInt64.ofNat 0, l3 := UInt64.ofNat 0, l4 := UInt64.ofNat 0, l5 := UInt64.ofNat 0 }, y := { l0 := UInt64.ofNat 0, l1 := UInt64.ofNat 0, l2 := UInt64.ofNat 0, l3 := UInt64.ofNat 0, l4 := UInt64.ofNat 0, l5 := UInt64.ofNat 0 }, inf := false }, 5), .t))))
                (.br ((f0 (List.take b.length (List.drop 0 b)) 48).snd.snd.fst)
                  (.br (fpEq ((f2 (f3 (f4 (f4 (f1 (List.take (f0 (List.take b.length (List.drop 0 b)) 48).fst.length (List.drop 0 (f0 (List.take b.length (List.drop 0 b)) 48).fst))).fst (f1 (List.take (f0 (List.take b.length (List.drop 0 b)) 48).fst.length (List.drop 0 (f0 (List.take b.length (List.drop 0 b)) 48).fst))).fst) (f1 (List.take (f0 (List.take b.length (List.drop 0 b)) 48).fst.length (List.drop 0 (f0 (List.take b.length (List.drop 0 b)) 48).fst))).fst) (f5 (UInt64.ofNat 4)))).fst) ({ l0 := UInt64.ofNat 0, l1 := UInt64.ofNat 0, l2 := UInt64.ofNat 0, l3 := UInt64.ofNat 0, l4 := UInt64.ofNat 0, l5 := UInt64.ofNat 0 }))
                    (.leaf (some ((({ x := { l0 := UInt64.ofNat 0, l1 := UInt64.ofNat 0, l2 := UInt64.ofNat 0, l3 := UInt64.ofNat 0, l4 := UInt64.ofNat 0, l5 := UInt64.ofNat 0 }, y := { l0 := UInt64.ofNat 0, l1 := UInt64.ofNat 0, l2 := UInt64.ofNat 0, l3 := UInt64.ofNat 0, l4 := UInt64.ofNat 0, l5 := UInt64.ofNat 0 }, inf := false }, 3), .t))))
                    (.br (!(f7 (f6 { x := (f1 (List.take (f0 (List.take b.length (List.drop 0 b)) 48).fst.length (List.drop 0 (f0 (List.take b.length (List.drop 0 b)) 48).fst))).fst, y := (f2 (f3 (f4 (f4 (f1 (List.take (f0 (List.take b.length (List.drop 0 b)) 48).fst.length (List.drop 0 (f0 (List.take b.length (List.drop 0 b)) 48).fst))).fst (f1 (List.take (f0 (List.take b.length (List.drop 0 b)) 48).fst.length (List.drop 0 (f0 (List.take b.length (List.drop 0 b)) 48).fst))).fst) (f1 (List.take (f0 (List.take b.length (List.drop 0 b)) 48).fst.length (List.drop 0 (f0 (List.take b.length (List.drop 0 b)) 48).fst))).fst) (f5 (UInt64.ofNat 4)))).fst, inf := false })))
                      (.leaf (some ((({ x := { l0 := UInt64.ofNat 0, l1 := UInt64.ofNat 0, l2 := UInt64.ofNat 0, l3 := UInt64.ofNat 0, l4 := UInt64.ofNat 0, l5 := UInt64.ofNat 0 }, y := { l0 := UInt64.ofNat 0, l1 := UInt64.ofNat 0, l2 := UInt64.ofNat 0, l3 := UInt64.ofNat 0, l4 := UInt64.ofNat 0, l5 := UInt64.ofNat 0 }, inf := false }, 6), .t))))
                      (.leaf (some (((f6 { x := (f1 (List.take (f0 (List.take b.length (List.drop 0 b)) 48).fst.length (List.drop 0 (f0 (List.take b.length (List.drop 0 b)) 48).fst))).fst, y := (f2 (f3 (f4 (f4 (f1 (List.take (f0 (List.take b.length (List.drop 0 b)) 48).fst.length (List.drop 0 (f0 (List.take b.length (List.drop 0 b)) 48).fst))).fst (f1 (List.take (f0 (List.take b.length (List.drop 0 b)) 48).fst.length (List.drop 0 (f0 (List.take b.length (List.drop 0 b)) 48).fst))).fst) (f1 (List.take (f0 (List.take b.length (List.drop 0 b)) 48).fst.length (List.drop 0 (f0 (List.take b.length (List.drop 0 b)) 48).fst))).fst) (f5 (UInt64.ofNat 4)))).fst, inf := false }, 0), .t))))))
                  (.br (!(f7 (f6 { x := (f1 (List.take (f0 (List.take b.length (List.drop 0 b)) 48).fst.length (List.drop 0 (f0 (List.take b.length (List.drop 0 b)) 48).fst))).fst, y := (f2 (f3 (f4 (f4 (f1 (List.take (f0 (List.take b.length (List.drop 0 b)) 48).fst.length (List.drop 0 (f0 (List.take b.length (List.drop 0 b)) 48).fst))).fst (f1 (List.take (f0 (List.take b.length (List.drop 0 b)) 48).fst.length (List.drop 0 (f0 (List.take b.length (List.drop 0 b)) 48).fst))).fst) (f1 (List.take (f0 (List.take b.length (List.drop 0 b)) 48).fst.length (List.drop 0 (f0 (List.take b.length (List.drop 0 b)) 48).fst))).fst) (f5 (UInt64.ofNat 4)))).fst, inf := false })))
                    (.leaf (some ((({ x := { l0 := UInt64.ofNat 0, l1 := UInt64.ofNat 0, l2 := UInt64.ofNat 0, l3 := UInt64.ofNat 0, l4 := UInt64.ofNat 0, l5 := UInt64.ofNat 0 }, y := { l0 := UInt64.ofNat 0, l1 := UInt64.ofNat 0, l2 := UInt64.ofNat 0, l3 := UInt64.ofNat 0, l4 := UInt64.ofNat 0, l5 := UInt64.ofNat 0 }, inf := false }, 6), .t))))
                    (.leaf (some (((f6 { x := (f1 (List.take (f0 (List.take b.length (List.drop 0 b)) 48).fst.length (List.drop 0 (f0 (List.take b.length (List.drop 0 b)) 48).fst))).fst, y := (f2 (f3 (f4 (f4 (f1 (List.take (f0 (List.take b.length (List.drop 0 b)) 48).fst.length (List.drop 0 (f0 (List.take b.length (List.drop 0 b)) 48).fst))).fst (f1 (List.take (f0 (List.take b.length (List.drop 0 b)) 48).fst.length (List.drop 0 (f0 (List.take b.length (List.drop 0 b)) 48).fst))).fst) (f1 (List.take (f0 (List.take b.length (List.drop 0 b)) 48).fst.length (List.drop 0 (f0 (List.take b.length (List.drop 0 b)) 48).fst))).fst) (f5 (UInt64.ofNat 4)))).fst, inf := false }, 0), .t)))))))
              (.br (!((f2 (f3 (f4 (f4 (f1 (List.take (f0 (List.take b.length (List.drop 0 b)) 48).fst.length (List.drop 0 (f0 (List.take b.length (List.drop 0 b)) 48).fst))).fst (f1 (List.take (f0 (List.take b.length (List.drop 0 b)) 48).fst.length (List.drop 0 (f0 (List.take b.length (List.drop 0 b)) 48).fst))).fst) (f1 (List.take (f0 (List.take b.length (List.drop 0 b)) 48).fst.length (List.drop 0 (f0 (List.take b.length (List.drop 0 b)) 48).fst))).fst) (f5 (UInt64.ofNat 4)))).snd))
                (.leaf (some ((({ x := { l0 := UInt64.ofNat 0, l1 := UInt64.ofNat 0, l2 := UInt64.ofNat 0, l3 := UInt64.ofNat 0, l4 := UInt64.ofNat 0, l5 := UInt64.ofNat 0 }, y := { l0 := UInt64.ofNat 0, l1 := UInt64.ofNat 0, l2 := UInt64.ofNat 0, l3 := UInt64.ofNat 0, l4 := UInt64.ofNat 0, l5 := UInt64.ofNat 0 }, inf := false }, 5), .t))))
                (.br ((f0 (List.take b.length (List.drop 0 b)) 48).snd.snd.fst)
                  (.br (fpEq ((f2 (f3 (f4 (f4 (f1 (List.take (f0 (List.take b.length (List.drop 0 b)) 48).fst.length (List.drop 0 (f0 (List.take b.length (List.drop 0 b)) 48).fst))).fst (f1 (List.take (f0 (List.take b.length (List.drop 0 b)) 48).fst.length (List.drop 0 (f0 (List.take b.length (List.drop 0 b)) 48).fst))).fst) (f1 (List.take (f0 (List.take b.length (List.drop 0 b)) 48).fst.length (List.drop 0 (f0 (List.take b.length (List.drop 0 b)) 48).fst))).fst) (f5 (UInt64.ofNat 4)))).fst) ({ l0 := UInt64.ofNat 0, l1 := UInt64.ofNat 0, l2 := UInt64.ofNat 0, l3 := UInt64.ofNat 0, l4 := UInt64.ofNat 0, l5 := UInt64.ofNat 0 }))
                    (.leaf (some ((({ x := { l0 := UInt64.ofNat 0, l1 := UInt64.ofNat 0, l2 := UInt64.ofNat 0, l3 := UInt64.ofNat 0, l4 := UInt64.ofNat 0, l5 := UInt64.ofNat 0 }, y := { l0 := UInt64.ofNat 0, l1 := UInt64.ofNat 0, l2 := UInt64.ofNat 0, l3 := UInt64.ofNat 0, l4 := UInt64.ofNat 0, l5 := UInt64.ofNat 0 }, inf := false }, 3), .t))))
                    (.br (!(f7 { x := (f1 (List.take (f0 (List.take b.length (List.drop 0 b)) 48).fst.length (List.drop 0 (f0 (List.take b.length (List.drop 0 b)) 48).fst))).fst, y := (f2 (f3 (f4 (f4 (f1 (List.take (f0 (List.take b.length (List.drop 0 b)) 48).fst.length (List.drop 0 (f0 (List.take b.length (List.drop 0 b)) 48).fst))).fst (f1 (List.take (f0 (List.take b.length (List.drop 0 b)) 48).fst.length (List.drop 0 (f0 (List.take b.length (List.drop 0 b)) 48).fst))).fst) (f1 (List.take (f0 (List.take b.length (List.drop 0 b)) 48).fst.length (List.drop 0 (f0 (List.take b.length (List.drop 0 b)) 48).fst))).fst) (f5 (UInt64.ofNat 4)))).fst, inf := false }))
                      (.leaf (some ((({ x := { l0 := UInt64.ofNat 0, l1 := UInt64.ofNat 0, l2 := UInt64.ofNat 0, l3 := UInt64.ofNat 0, l4 := UInt64.ofNat 0, l5 := UInt64.ofNat 0 }, y := { l0 := UInt64.ofNat 0, l1 := UInt64.ofNat 0, l2 := UInt64.ofNat 0, l3 := UInt64.ofNat 0, l4 := UInt64.ofNat 0, l5 := UInt64.ofNat 0 }, inf := false }, 6), .t))))
                      (.leaf (some ((({ x := (f1 (List.take (f0 (List.take b.length (List.drop 0 b)) 48).fst.length (List.drop 0 (f0 (List.take b.length (List.drop 0 b)) 48).fst))).fst, y := (f2 (f3 (f4 (f4 (f1 (List.take (f0 (List.take b.length (List.drop 0 b)) 48).fst.length (List.drop 0 (f0 (List.take b.length (List.drop 0 b)) 48).fst))).fst (f1 (List.take (f0 (List.take b.length (List.drop 0 b)) 48).fst.length (List.drop 0 (f0 (List.take b.length (List.drop 0 b)) 48).fst))).fst) (f1 (List.take (f0 (List.take b.length (List.drop 0 b)) 48).fst.length (List.drop 0 (f0 (List.take b.length (List.drop 0 b)) 48).fst))).fst) (f5 (UInt64.ofNat 4)))).fst, inf := false }, 0), .t))))))
                  (.br (!(f7 { x := (f1 (List.take (f0 (List.take b.length (List.drop 0 b)) 48).fst.length (List.drop 0 (f0 (List.take b.length (List.drop 0 b)) 48).fst))).fst, y := (f2 (f3 (f4 (f4 (f1 (List.take (f0 (List.take b.length (List.drop 0 b)) 48).fst.length (List.drop 0 (f0 (List.take b.length (List.drop 0 b)) 48).fst))).fst (f1 (List.take (f0 (List.take b.length (List.drop 0 b)) 48).fst.length (List.drop 0 (f0 (List.take b.length (List.drop 0 b)) 48).fst))).fst) (f1 (List.take (f0 (List.take b.length (List.drop 0 b)) 48).fst.length (List.drop 0 (f0 (List.take b.length (List.drop 0 b)) 48).fst))).fst) (f5 (UInt64.ofNat 4)))).fst, inf := false }))
                    (.leaf (some ((({ x := { l0 := UInt64.ofNat 0, l1 := UInt64.ofNat 0, l2 := UInt64.ofNat 0, l3 := UInt64.ofNat 0, l4 := UInt64.ofNat 0, l5 := UInt64.ofNat 0 }, y := { l0 := UInt64.ofNat 0, l1 := UInt64.ofNat 0, l2 := UInt64.ofNat 0, l3 := UInt64.ofNat 0, l4 := UInt64.ofNat 0, l5 := UInt64.ofNat 0 }, inf := false }, 6), .t))))
                    (.leaf (some ((({ x := (f1 (List.take (f0 (List.take b.length (List.drop 0 b)) 48).fst.length (List.drop 0 (f0 (List.take b.length (List.drop 0 b)) 48).fst))).fst, y := (f2 (f3 (f4 (f4 (f1 (List.take (f0 (List.take b.length (List.drop 0 b)) 48).fst.length (List.drop 0 (f0 (List.take b.length (List.drop 0 b)) 48).fst))).fst (f1 (List.take (f0 (List.take b.length (List.drop 0 b)) 48).fst.length (List.drop 0 (f0 (List.take b.length (List.drop 0 b)) 48).fst))).fst) (f1 (List.take (f0 (List.take b.length (List.drop 0 b)) 48).fst.length (List.drop 0 (f0 (List.take b.length (List.drop 0 b)) 48).fst))).fst) (f5 (UInt64.ofNat 4)))).fst, inf := false }, 0), .t)))))))))))))
theorem take1F_run (f0 : List UInt8 → Int → List UInt8 × Bool × Bool × Int) (f1 : List UInt8 → Fp × Int) (f2 : Fp → Fp × Bool) (f3 : Fp → Fp → Fp) (f4 : Fp → Fp → Fp) (f5 : UInt64 → Fp) (f6 : Pg1 → Pg1) (f7 : Pg1 → Bool) (b : List UInt8) : endT (Ens [(90, K2 aBs aN oB4.res f0), (91, Kftake f1), (92, Ksqrt f2), (93, Kff f3), (94, Kff f4), (95, Kof f5), (96, K1 (kRow Pg1).arg (kRow Pg1).rs.res f6), (97, K1 (kRow Pg1).arg kBool.rs.res f7)] [90]) ((kRow Pg1).rs2 kInt).out 300 Tryz.f44 (flat (codeOf Tryz.f44)) (startSt Tryz.f44 [iBs.av 0 b] [inHE eU8 b]) = take1F_T f0 f1 f2 f3 f4 f5 f6 f7 b := by kernel_rfl
def take1F (b : List UInt8) : Pg1 × Int := (take1F_T bareF ftakeF sqrtF addF mulF ofF negG1 inG1 b).outD (pg10, 0)
theorem take1F_ok' (h : ∀ (b : List UInt8), iBs.fact b → (take1F_T bareF ftakeF sqrtF addF mulF ofF negG1 inG1 b).full = true ∧ (take1F_T bareF ftakeF sqrtF addF mulF ofF negG1 inG1 b).okAll) : CallOk Tryz.prog 44 (K1 aBs ((kRow Pg1).rs2 kInt).out.res take1F) :=
  Go.Proofs.YtbbnabednkopdaaGreat.G1 (E := Ens [(90, K2 aBs aN oB4.res bareF), (91, Kftake ftakeF), (92, Ksqrt sqrtF), (93, Kff addF), (94, Kff mulF), (95, Kof ofF), (96, K1 (kRow Pg1).arg (kRow Pg1).rs.res negG1), (97, K1 (kRow Pg1).arg kBool.rs.res inG1)] [90]) Tryz.func44 (c := codeOf Tryz.f44) (by kernel_rfl) (bodied Tryz.func44 (by kernel_rfl) (by kernel_rfl)) iBs ((kRow Pg1).rs2 kInt).out take1F fun b hb => DoesL.outs (Ens_ok (.cons bare_ok (.cons ftake_ok (.cons sqrt_ok (.cons add_ok (.cons mul_ok (.cons of_ok (.cons negG1_ok (.cons inG1_ok .nil))))))))) 300 (pg10, 0) (take1F_run bareF ftakeF sqrtF addF mulF ofF negG1 inG1 b) (h b hb).1 (h b hb).2
def take2F_T (f0 : List UInt8 → Int → List UInt8 × Bool × Bool × Int) (f1 : List UInt8 → Fp × Int) (f2 : Fp2 → Fp2 × Bool) (f3 : Fp2 → Fp2 → Fp2) (f4 : Fp2 → Fp2 → Fp2) (f5 : Pg2 → Pg2) (f6 : Pg2 → Bool) (b : List UInt8) : Tree (Option ((Pg2 × Int) × Pr)) :=
  (.vc (((0 + b.length ≤ b.length ∧ b.length < 1125899906842624 ∧ 0 = 0 ∧ 1 = 1) ∧ littleB (List.take b.length (List.drop 0 b))) ∧ sizeB 96)
    (.br ((f0 (List.take b.length (List.drop 0 b)) 96).snd.snd.snd != 0)
      (.leaf (some ((({ x := { c0 := { l0 := UInt64.ofNat 0, l1 := UInt64.ofNat 0, l2 := UInt64.ofNat 0, l3 := UInt64.ofNat 0, l4 := UInt64.ofNat 0, l5 := UInt64.ofNat 0 }, c1 := { l0 := UInt64.ofNat 0, l1 := UInt64.ofNat 0, l2 := UInt64.ofNat 0, l3 := UInt64.ofNat 0, l4 := UInt64.ofNat 0, l5 := UInt64.ofNat 0 } }, y := { c0 := { l0 := UInt64.ofNat 0, l1 := UInt64.ofNat 0, l2 := UInt64.ofNat 0, l3 := UInt64.ofNat 0, l4 := UInt64.ofNat 0, l5 := UInt64.ofNat 0 }, c1 := { l0 := UInt64.ofNat 0, l1 := UInt64.ofNat 0, l2 := UInt64.ofNat 0, l3 := UInt64.ofNat 0, l4 := UInt64.ofNat 0, l5 := UInt64.ofNat 0 } }, inf := false }, (f0 (List.take b.length (List.drop 0 b)) 96).snd.snd.snd), .t))))
      (.br ((f0 (List.take b.length (List.drop 0 b)) 96).snd.fst)
        (.leaf (some ((({ x := { c0 := { l0 := UInt64.ofNat 0, l1 := UInt64.ofNat 0, l2 := UInt64.ofNat 0, l3 := UInt64.ofNat 0, l4 := UInt64.ofNat 0, l5 := UInt64.ofNat 0 }, c1 := { l0 := UInt64.ofNat 0, l1 := UInt64.ofNat 0, l2 := UInt64.ofNat 0, l3 := UInt64.ofNat 0, l4 := UInt64.ofNat 0, l5 := UInt64.ofNat 0 } }, y := { c0 := { l0 := UInt64.ofNat 0, l1 := UInt64.ofNat 0, l2 := UInt64.ofNat 0, l3 := UInt64.ofNat 0, l4 := UInt64.ofNat 0, l5 := UInt64.ofNat 0 }, c1 := { l0 := UInt64.ofNat 0, l1 := UInt64.ofNat 0, l2 := UInt64.ofNat 0, l3 := UInt64.ofNat 0, l4 := UInt64.ofNat 0, l5 := UInt64.ofNat 0 } }, inf := true }, 0), .t))))
        (.vc (0 ≤ 48 ∧ 48 ≤ (f0 (List.take b.length (List.drop 0 b)) 96).fst.length ∧ 0 + (f0 (List.take b.length (List.drop 0 b)) 96).fst.length * 1 ≤ (List.map EK.u8.cell (f0 (List.take b.length (List.drop 0 b)) 96).fst).length ∧ 0 < 1 ∧ (0 = 0 ∨ 0 < 48) ∧ 0 = 0 ∧ 1 = 1)
          (.vc ((48 ≤ (f0 (List.take b.length (List.drop 0 b)) 96).fst.length ∧ 48 < 1125899906842624 ∧ 0 = 0 ∧ 1 = 1) ∧ littleB (List.take 48 (List.drop 0 (f0 (List.take b.length (List.drop 0 b)) 96).fst)))
            (.br ((f1 (List.take 48 (List.drop 0 (f0 (List.take b.length (List.drop 0 b)) 96).fst))).snd != 0)
              (.leaf (some ((({ x := { c0 := { l0 := UInt64.ofNat 0, l1 := UInt64.ofNat 0, l2 := UInt64.ofNat 0, l3 := UInt64.ofNat 0, l4 := UInt64.ofNat 0, l5 := UInt64.ofNat 0 }, c1 := { l0 := UInt64.ofNat 0, l1 := UInt64.ofNat 0, l2 := UInt64.ofNat 0, l3 := UInt64.ofNat 0, l4 := UInt64.ofNat 0, l5 := UInt64.ofNat 0 } }, y := { c0 := { l0 := UInt64.ofNat 0, l1 := UInt64.ofNat 0, l2 := UInt64.ofNat 0, l3 := UInt64.ofNat 0, l4 := UInt64.ofNat 0, l5 := UInt64.ofNat 0 }, c1 := { l0 := UInt64.ofNat 0, l1 := UInt64.ofNat 0, l2 := UInt64.ofNat 0, l3 := UInt64.ofNat 0, l4 := UInt64.ofNat 0, l5 := UInt64.ofNat 0 } }, inf := false }, (f1 (List.take 48 (List.drop 0 (f0 (List.take b.length (List.drop 0 b)) 96).fst))).snd), .t))))
              (.vc (48 ≤ (f0 (List.take b.length (List.drop 0 b)) 96).fst.length ∧ (f0 (List.take b.length (List.drop 0 b)) 96).fst.length ≤ (f0 (List.take b.length (List.drop 0 b)) 96).fst.length ∧ 0 + (f0 (List.take b.length (List.drop 0 b)) 96).fst.length * 1 ≤ (List.map EK.u8.cell (f0 (List.take b.length (List.drop 0 b)) 96).fst).length ∧ 0 < 1 ∧ (48 = 0 ∨ 48 < (f0 (List.take b.length (List.drop 0 b)) 96).fst.length) ∧ 0 = 0 ∧ 1 = 1)
                (.vc ((48 + ((f0 (List.take b.length (List.drop 0 b)) 96).fst.length - 48) ≤ (f0 (List.take b.length (List.drop 0 b)) 96).fst.length ∧ (f0 (List.take b.length (List.drop 0 b)) 96).fst.length - 48 < 1125899906842624 ∧ 48 = 48 ∧ 1 = 1) ∧ littleB (List.take ((f0 (List.take b.length (List.drop 0 b)) 96).fst.length - 48) (List.drop 48 (f0 (List.take b.length (List.drop 0 b)) 96).fst)))
                  (.br ((f1 (List.take ((f0 (List.take b.length (List.drop 0 b)) 96).fst.length - 48) (List.drop 48 (f0 (List.take b.length (List.drop 0 b)) 96).fst))).snd != 0)
                    (.leaf (some ((({ x := { c0 := { l0 := UInt64.ofNat 0, l1 := UInt64.ofNat 0, l2 := UInt64.ofNat 0, l3 := UInt64.ofNat 0, l4 := UInt64.ofNat 0, l5 := UInt64.ofNat 0 }, c1 := { l0 := UInt64.ofNat 0, l1 := UInt64.ofNat 0, l2 := UInt64.ofNat 0, l3 := UInt64.ofNat 0, l4 := UInt64.ofNat 0, l5 := UInt64.ofNat 0 } }, y := { c0 := { l0 := UInt64.ofNat 0, l1 := UInt64.ofNat 0, l2 := UInt64.ofNat 0, l3 := UInt64.ofNat 0, l4 := UInt64.ofNat 0, l5 := UInt64.ofNat 0 }, c1 := { l0 := UInt64.ofNat 0, l1 := UInt64.ofNat 0, l2 := UInt64.ofNat 0, l3 := UInt64.ofNat 0, l4 := UInt64.ofNat 0, l5 := UInt64.ofNat 0 } }, inf := false }, (f1 (List.take ((f0 (List.take b.length (List.drop 0 b)) 96).fst.length - 48) (List.drop 48 (f0 (List.take b.length (List.drop 0 b)) 96).fst))).snd), .t))))
                    (.br ((f0 (List.take b.length (List.drop 0 b)) 96).snd.snd.fst)
                      (.br (!((f2 (f3 (f4 (f4 { c0 := (f1 (List.take ((f0 (List.take b.length (List.drop 0 b)) 96).fst.length - 48) (List.drop 48 (f0 (List.take b.length (List.drop 0 b)) 96).fst))).fst, c1 := (f1 (List.take 48 (List.drop 0 (f0 (List.take b.length (List.drop 0 b)) 96).fst))).fst } { c0 := (f1 (List.take ((f0 (List.take b.length (List.drop 0 b)) 96).fst.length - 48) (List.drop 48 (f0 (List.take b.length (List.drop 0 b)) 96).fst))).fst, c1 := (f1 (List.take 48 (List.drop 0 (f0 (List.take b.length (List.drop 0 b)) 96).fst))).fst }) { c0 := (f1 (List.take ((f0 (List.take b.length (List.drop 0 b)) 96).fst.length - 48) (List.drop 48 (f0 (List.take b.length (List.drop 0 b)) 96).fst))).fst, c1 := (f1 (List.take 48 (List.drop 0 (f0 (List.take b.length (List.drop 0 b)) 96).fst))).fst }) { c0 := { l0 := UInt64.ofNat 4, l1 := UInt64.ofNat 0, l2 := UInt64.ofNat 0, l3 := UInt64.ofNat 0, l4 := UInt64.ofNat 0, l5 := UInt64.ofNat 0 }, c1 := { l0 := UInt64.ofNat 4, l1 := UInt64.ofNat 0, l2 := UInt64.ofNat 0, l3 := UInt64.ofNat 0, l4 := UInt64.ofNat 0, l5 := UInt64.ofNat 0 } })).snd))
                        (.leaf (some ((({ x := { c0 := { l0 := UInt64.ofNat 0, l1 := UInt64.ofNat 0, l2 := UInt64.ofNat 0, l3 := UInt64.ofNat 0, l4 := UInt64.ofNat 0, l5 := UInt64.ofNat 0 }, c1 := { l0 := UInt64.ofNat 0, l1 := UInt64.ofNat 0, l2 := UInt64.ofNat 0, l3 := UInt64.ofNat 0, l4 := UInt64.ofNat 0, l5 := UInt64.ofNat 0 } }, y := { c0 := { l0 := UInt64.ofNat 0, l1 := UInt64.ofNat 0, l2 := UInt64.ofNat 0, l3 := UInt64.ofNat 0, l4 := UInt64.ofNat 0, l5 := UInt64.ofNat 0 }, c1 := { l0 := UInt64.ofNat 0, l1 := UInt64.ofNat 0, l2 := UInt64.ofNat 0, l3 := UInt64.ofNat 0, l4 := UInt64.ofNat 0, l5 := UInt64.ofNat 0 } }, inf := false }, 5), .t))))
                        (.br ((f0 (List.take b.length (List.drop 0 b)) 96).snd.snd.fst)
                          (.br (fp2Eq ((f2 (f3 (f4 (f4 { c0 := (f1 (List.take ((f0 (List.take b.length (List.drop 0 b)) 96).fst.length - 48) (List.drop 48 (f0 (List.take b.length (List.drop 0 b)) 96).fst))).fst, c1 := (f1 (List.take 48 (List.drop 0 (f0 (List.take b.length (List.drop 0 b)) 96).fst))).fst } { c0 := (f1 (List.take ((f0 (List.take b.length (List.drop 0 b)) 96).fst.length - 48) (List.drop 48 (f0 (List.take b.length (List.drop 0 b)) 96).fst))).fst, c1 := (f1 (List.take 48 (List.drop 0 (f0 (List.take b.length (List.drop 0 b)) 96).fst))).fst }) { c0 := (f1 (List.take ((f0 (List.take b.length (List.drop 0 b)) 96).fst.length - 48) (List.drop 48 (f0 (List.take b.length (List.drop 0 b)) 96).fst))).fst, c1 := (f1 (List.take 48 (List.drop 0 (f0 (List.take b.length (List.drop 0 b)) 96).fst))).fst }) { c0 := { l0 := UInt64.ofNat 4, l1 := UInt64.ofNat 0, l2 := UInt64.ofNat 0, l3 := UInt64.ofNat 0, l4 := UInt64.ofNat 0, l5 := UInt64.ofNat 0 }, c1 := { l0 := UInt64.ofNat 4, l1 := UInt64.ofNat 0, l2 := UInt64.ofNat 0, l3 := UInt64.ofNat 0, l4 := UInt64.ofNat 0, l5 := UInt64.ofNat 0 } })).fst) ({ c0 := { l0 := UInt64.ofNat 0, l1 := UInt64.ofNat 0, l2 := UInt64.ofNat 0, l3 := UInt64.ofNat 0, l4 := UInt64.ofNat 0, l5 := UInt64.ofNat 0 }, c1 := { l0 := UInt64.ofNat 0, l1 := UInt64.ofNat 0, l2 := UInt64.ofNat 0, l3 := UInt64.ofNat 0, l4 := UInt64.ofNat 0, l5 := UInt64.ofNat 0 } }))
                            (.leaf (some ((({ x := { c0 := { l0 := UInt64.ofNat 0, l1 := UInt64.ofNat 0, l2 := UInt64.ofNat 0, l3 := UInt64.ofNat 0, l4 := UInt64.ofNat 0, l5 := UInt64.ofNat 0 }, c1 := { l0 := UInt64.ofNat 0, l1 := UInt64.ofNat 0, l2 := UInt64.ofNat 0, l3 := UInt64.ofNat 0, l4 := UInt64.ofNat 0, l5 := UInt64.ofNat 0 } }, y := { c0 := { l0 := UInt64.ofNat 0, l1 := UInt64.ofNat 0, l2 := UInt64.ofNat 0, l3 := UInt64.ofNat 0, l4 := UInt64.ofNat 0, l5 := UInt64.ofNat 0 }, c1 := { l0 := UInt64.ofNat 0, l1 := UInt64.ofNat 0, l2 := UInt64.ofNat 0, l3 := UInt64.ofNat 0, l4 := UInt64.ofNat 0, l5 := UInt64.ofNat 0 } }, inf := false }, 3), .t))))
                            (.br (!(f6 (f5 { x := { c0 := (f1 (List.take ((f0 (List.take b.length (List.drop 0 b)) 96).fst.length - 48) (List.drop 48 (f0 (List.take b.length (List.drop 0 b)) 96).fst))).fst, c1 := (f1 (List.take 48 (List.drop 0 (f0 (List.take b.length (List.drop 0 b)) 96).fst))).fst }, y := (f2 (f3 (f4 (f4 { c0 := (f1 (List.take ((f0 (List.take b.length (List.drop 0 b)) 96).fst.length - 48) (List.drop 48 (f0 (List.take b.length (List.drop 0 b)) 96).fst))).fst, c1 := (f1 (List.take 48 (List.drop 0 (f0 (List.take b.length (List.drop 0 b)) 96).fst))).fst } { c0 := (f1 (List.take ((f0 (List.take b.length (List.drop 0 b)) 96).fst.length - 48) (List.drop 48 (f0 (List.take b.length (List.drop 0 b)) 96).fst))).fst, c1 := (f1 (List.take 48 (List.drop 0 (f0 (List.take b.length (List.drop 0 b)) 96).fst))).fst }) { c0 := (f1 (List.take ((f0 (List.take b.length (List.drop 0 b)) 96).fst.length - 48) (List.drop 48 (f0 (List.take b.length (List.drop 0 b)) 96).fst))).fst, c1 := (f1 (List.take 48 (List.drop 0 (f0 (List.take b.length (List.drop 0 b)) 96).fst))).fst }) { c0 := { l0 := UInt64.ofNat 4, l1 := UInt64.ofNat 0, l2 := UInt64.ofNat 0, l3 := UInt64.ofNat 0, l4 := UInt64.ofNat 0, l5 := UInt64.ofNat 0 }, c1 := { l0 := UInt64.ofNat 4, l1 := UInt64.ofNat 0, l2 := UInt64.ofNat 0, l3 := UInt64.ofNat 0, l4 := UInt64.ofNat 0, l5 := UInt64.ofNat 0 } })).fst, inf := false })))
                              (.leaf (some ((({ x := { c0 := { l0 := UInt64.ofNat 0, l1 := UInt64.ofNat 0, l2 := UInt64.ofNat 0, l3 := UInt64.ofNat 0, l4 := UInt64.ofNat 0, l5 := UInt64.ofNat 0 }, c1 := { l0 := UInt64.ofNat 0, l1 := UInt64.ofNat 0, l2 := UInt64.ofNat 0, l3 := UInt64.ofNat 0, l4 := UInt64.ofNat 0, l5 := UInt64.ofNat 0 } }, y := { c0 := { l0 := UInt64.ofNat 0, l1 := UInt64.ofNat 0, l2 := UInt64.ofNat 0, l3 := UInt64.ofNat 0, l4 := UInt64.ofNat 0, l5 := UInt64.ofNat 0 }, c1 := { l0 := UInt64.ofNat 0, l1 := UInt64.ofNat 0, l2 := UInt64.ofNat 0, l3 := UInt64.ofNat 0, l4 := UInt64.ofNat 0, l5 := UInt64.ofNat 0 } }, inf := false }, 6), .t))))
                              (.leaf (some (((f5 { x := { c0 := (f1 (List.take ((f0 (List.take b.length (List.drop 0 b)) 96).fst.length - 48) (List.drop 48 (f0 (List.take b.length (List.drop 0 b)) 96).fst))).fst, c1 := (f1 (List.take 48 (List.drop 0 (f0 (List.take b.length (List.drop 0 b)) 96).fst))).fst }, y := (f2 (f3 (f4 (f4 { c0 := (f1 (List.take ((f0 (List.take b.length (List.drop 0 b)) 96).fst.length - 48) (List.drop 48 (f0 (List.take b.length (List.drop 0 b)) 96).fst))).fst, c1 := (f1 (List.take 48 (List.drop 0 (f0 (List.take b.length (List.drop 0 b)) 96).fst))).fst } { c0 := (f1 (List.take ((f0 (List.take b.length (List.drop 0 b)) 96).fst.length - 48) (List.drop 48 (f0 (List.take b.length (List.drop 0 b)) 96).fst))).fst, c1 := (f1 (List.take 48 (List.drop 0 (f0 (List.take b.length (List.drop 0 b)) 96).fst))).fst }) { c0 := (f1 (List.take ((f0 (List.take b.length (List.drop 0 b)) 96).fst.length - 48) (List.drop 48 (f0 (List.take b.length (List.drop 0 b)) 96).fst))).fst, c1 := (f1 (List.take 48 (List.drop 0 (f0 (List.take b.length (List.drop 0 b)) 96).fst))).fst }) { c0 := { l0 := UInt64.ofNat 4, l1 := UInt64.ofNat 0, l2 := UInt64.ofNat 0, l3 := UInt64.ofNat 0, l4 := UInt64.ofNat 0, l5 := UInt64.ofNat 0 }, c1 := { l0 := UInt64.ofNat 4, l1 := UInt64.ofNat 0, l2 := UInt64.ofNat 0, l3 := UInt64.ofNat 0, l4 := UInt64.ofNat 0, l5 := UInt64.ofNat 0 } })).fst, inf := false }, 0), .t))))))
                          (.br (!(f6 (f5 { x := { c0 := (f1 (List.take ((f0 (List.take b.length (List.drop 0 b)) 96).fst.length - 48) (List.drop 48 (f0 (List.take b.length (List.drop 0 b)) 96).fst))).fst, c1 := (f1 (List.take 48 (List.drop 0 (f0 (List.take b.length (List.drop 0 b)) 96).fst))).fst }, y := (f2 (f3 (f4 (f4 { c0 := (f1 (List.take ((f0 (List.take b.length (List.drop 0 b)) 96).fst.length - 48) (List.drop 48 (f0 (List.take b.length (List.drop 0 b)) 96).fst))).fst, c1 := (f1 (List.take 48 (List.drop 0 (f0 (List.take b.length (List.drop 0 b)) 96).fst))).fst } { c0 := (f1 (List.take ((f0 (List.take b.length (List.drop 0 b)) 96).fst.length - 48) (List.drop 48 (f0 (List.take b.length (List.drop 0 b)) 96).fst))).fst, c1 := (f1 (List.take 48 (List.drop 0 (f0 (List.take b.length (List.drop 0 b)) 96).fst))).fst }) { c0 := (f1 (List.take ((f0 (List.take b.length (List.drop 0 b)) 96).fst.length - 48) (List.drop 48 (f0 (List.take b.length (List.drop 0 b)) 96).fst))).fst, c1 := (f1 (List.take 48 (List.drop 0 (f0 (List.take b.length (List.drop 0 b)) 96).fst))).fst }) { c0 := { l0 := UInt64.ofNat 4, l1 := UInt64.ofNat 0, l2 := UInt64.ofNat 0, l3 := UInt64.ofNat 0, l4 := UInt64.ofNat 0, l5 := UInt64.ofNat 0 }, c1 := { l0 := UInt64.ofNat 4, l1 := UInt64.ofNat 0, l2 := UInt64.ofNat 0, l3 := UInt64.ofNat 0, l4 := UInt64.ofNat 0, l5 := UInt64.ofNat 0 } })).fst, inf := false })))
                            (.leaf (some ((({ x := { c0 := { l0 := UInt64.ofNat 0, l1 := UInt64.ofNat 0, l2 := UInt64.ofNat 0, l3 := UInt64.ofNat 0, l4 := UInt64.ofNat 0, l5 := UInt64.ofNat 0 }, c1 := { l0 := UInt64.ofNat 0, l1 := UInt64.ofNat 0, l2 := UInt64.ofNat 0, l3 := UInt64.ofNat 0, l4 := UInt64.ofNat 0, l5 := UInt64.ofNat 0 } }, y := { c0 := { l0 := UInt64.ofNat 0, l1 := UInt64.ofNat 0, l2 := UInt64.ofNat 0, l3 := UInt64.ofNat 0, l4 := UInt64.ofNat 0, l5 := UInt64.ofNat 0 }, c1 := { l0 := UInt64.ofNat 0, l1 := UInt64.ofNat 0, l2 := UInt64.ofNat 0, l3 := UInt64.ofNat 0, l4 := UInt64.ofNat 0, l5 := UInt64.ofNat 0 } }, inf := false }, 6), .t))))
                            (.leaf (some (((f5 { x := { c0 := (f1 (List.take ((f0 (List.take b.length (List.drop 0 b)) 96).fst.length - 48) (List.drop 48 (f0 (List.take b.length (List.drop 0 b)) 96).fst))).fst, c1 := (f1 (List.take 48 (List.drop 0 (f0 (List.take b.length (List.drop 0 b)) 96).fst))).fst }, y := (f2 (f3 (f4 (f4 { c0 := (f1 (List.take ((f0 (List.take b.length (List.drop 0 b)) 96).fst.length - 48) (List.drop 48 (f0 (List.take b.length (List.drop 0 b)) 96).fst))).fst, c1 := (f1 (List.take 48 (List.drop 0 (f0 (List.take b.length (List.drop 0 b)) 96).fst))).fst } { c0 := (f1 (List.take ((f0 (List.take b.length (List.drop 0 b)) 96).fst.length - 48) (List.drop 48 (f0 (List.take b.length (List.drop 0 b)) 96).fst))).fst, c1 := (f1 (List.take 48 (List.drop 0 (f0 (List.take b.length (List.drop 0 b)) 96).fst))).fst }) { c0 := (f1 (List.take ((f0 (List.take b.length (List.drop 0 b)) 96).fst.length - 48) (List.drop 48 (f0 (List.take b.length (List.drop 0 b)) 96).fst))).fst, c1 := (f1 (List.take 48 (List.drop 0 (f0 (List.take b.length (List.drop 0 b)) 96).fst))).fst }) { c0 := { l0 := UInt64.ofNat 4, l1 := UInt64.ofNat 0, l2 := UInt64.ofNat 0, l3 := UInt64.ofNat 0, l4 := UInt64.ofNat 0, l5 := UInt64.ofNat 0 }, c1 := { l0 := UInt64.ofNat 4, l1 := UInt64.ofNat 0, l2 := UInt64.ofNat 0, l3 := UInt64.ofNat 0, l4 := UInt64.ofNat 0, l5 := UInt64.ofNat 0 } })).fst, inf := false }, 0), .t)))))))
                      (.br (!((f2 (f3 (f4 (f4 { c0 := (f1 (List.take ((f0 (List.take b.length (List.drop 0 b)) 96).fst.length - 48) (List.drop 48 (f0 (List.take b.length (List.drop 0 b)) 96).fst))).fst, c1 := (f1 (List.take 48 (List.drop 0 (f0 (List.take b.length (List.drop 0 b)) 96).fst))).fst } { c0 := (f1 (List.take ((f0 (List.take b.length (List.drop 0 b)) 96).fst.length - 48) (List.drop 48 (f0 (List.take b.length (List.drop 0 b)) 96).fst))).fst, c1 := (f1 (List.take 48 (List.drop 0 (f0 (List.take b.length (List.drop 0 b)) 96).fst))).fst }) { c0 := (f1 (List.take ((f0 (List.take b.length (List.drop 0 b)) 96).fst.length - 48) (List.drop 48 (f0 (List.take b.length (List.drop 0 b)) 96).fst))).fst, c1 := (f1 (List.take 48 (List.drop 0 (f0 (List.take b.length (List.drop 0 b)) 96).fst))).fst }) { c0 := { l0 := UInt64.ofNat 4, l1 := UInt64.ofNat 0, l2 := UInt64.ofNat 0, l3 := UInt64.ofNat 0, l4 := UInt64.ofNat 0, l5 := UInt64.ofNat 0 }, c1 := { l0 := UInt64.ofNat 4, l1 := UInt64.ofNat 0, l2 := UInt64.ofNat 0, l3 := UInt64.ofNat 0, l4 := UInt64.ofNat 0, l5 := UInt64.ofNat 0 } })).snd))
                        (.leaf (some ((({ x := { c0 := { l0 := UInt64.ofNat 0, l1 := UInt64.ofNat 0, l2 := UInt64.ofNat 0, l3 := UInt64.ofNat 0, l4 := UInt64.ofNat 0, l5 := UInt64.ofNat 0 }, c1 := { l0 := UInt64.ofNat 0, l1 := UInt64.ofNat 0, l2 := UInt64.ofNat 0, l3 := UInt64.ofNat 0, l4 := UInt64.ofNat 0, l5 := UInt64.ofNat 0 } }, y := { c0 := { l0 := UInt64.ofNat 0, l1 := UInt64.ofNat 0, l2 := UInt64.ofNat 0, l3 := UInt64.ofNat 0, l4 := UInt64.ofNat 0, l5 := UInt64.ofNat 0 }, c1 := { l0 := UInt64.ofNat 0, l1 := UInt64.ofNat 0, l2 := UInt64.ofNat 0, l3 := UInt64.ofNat 0, l4 := UInt64.ofNat 0, l5 := UInt64.ofNat 0 } }, inf := false }, 5), .t))))
                        (.br ((f0 (List.take b.length (List.drop 0 b)) 96).snd.snd.fst)
                          (.br (fp2Eq ((f2 (f3 (f4 (f4 { c0 := (f1 (List.take ((f0 (List.take b.length (List.drop 0 b)) 96).fst.length - 48) (List.drop 48 (f0 (List.take b.length (List.drop 0 b)) 96).fst))).fst, c1 := (f1 (List.take 48 (List.drop 0 (f0 (List.take b.length (List.drop 0 b)) 96).fst))).fst } { c0 := (f1 (List.take ((f0 (List.take b.length (List.drop 0 b)) 96).fst.length - 48) (List.drop 48 (f0 (List.take b.length (List.drop 0 b)) 96).fst))).fst, c1 := (f1 (List.take 48 (List.drop 0 (f0 (List.take b.length (List.drop 0 b)) 96).fst))).fst }) { c0 := (f1 (List.take ((f0 (List.take b.length (List.drop 0 b)) 96).fst.length - 48) (List.drop 48 (f0 (List.take b.length (List.drop 0 b)) 96).fst))).fst, c1 := (f1 (List.take 48 (List.drop 0 (f0 (List.take b.length (List.drop 0 b)) 96).fst))).fst }) { c0 := { l0 := UInt64.ofNat 4, l1 := UInt64.ofNat 0, l2 := UInt64.ofNat 0, l3 := UInt64.ofNat 0, l4 := UInt64.ofNat 0, l5 := UInt64.ofNat 0 }, c1 := { l0 := UInt64.ofNat 4, l1 := UInt64.ofNat 0, l2 := UInt64.ofNat 0, l3 := UInt64.ofNat 0, l4 := UInt64.ofNat 0, l5 := UInt64.ofNat 0 } })).fst) ({ c0 := { l0 := UInt64.ofNat 0, l1 := UInt64.ofNat 0, l2 := UInt64.ofNat 0, l3 := UInt64.ofNat 0, l4 := UInt64.ofNat 0, l5 := UInt64.ofNat 0 }, c1 := { l0 := UInt64.ofNat 0, l1 := UInt64.ofNat 0, l2 := UInt64.ofNat 0, l3 := UInt64.ofNat 0, l4 := UInt64.ofNat 0, l5 := UInt64.ofNat 0 } }))
                            (.leaf (some ((({ x := { c0 := { l0 := UInt64.ofNat 0, l1 := UInt64.ofNat 0, l2 := UInt64.ofNat 0, l3 := UInt64.ofNat 0, l4 := UInt64.ofNat 0, l5 := UInt64.ofNat 0 }, c1 := { l0 := UInt64.ofNat 0, l1 := UInt64.ofNat 0, l2 := UInt64.ofNat 0, l3 := UInt64.ofNat 0, l4 := UInt64.ofNat 0, l5 := UInt64.ofNat 0 } }, y := { c0 := { l0 := UInt64.ofNat 0, l1 := UInt64.ofNat 0, l2 := UInt64.ofNat 0, l3 := UInt64.ofNat 0, l4 := UInt64.ofNat 0, l5 := UInt64.ofNat 0 }, c1 := { l0 := UInt64.ofNat 0, l1 := UInt64.ofNat 0, l2 := UInt64.ofNat 0, l3 := UInt64.ofNat 0, l4 := UInt64.ofNat 0, l5 := UInt64.ofNat 0 } }, inf := false }, 3), .t))))
                            (.br (!(f6 { x := { c0 := (f1 (List.take ((f0 (List.take b.length (List.drop 0 b)) 96).fst.length - 48) (List.drop 48 (f0 (List.take b.length (List.drop 0 b)) 96).fst))).fst, c1 := (f1 (List.take 48 (List.drop 0 (f0 (List.take b.length (List.drop 0 b)) 96).fst))).fst }, y := (f2 (f3 (f4 (f4 { c0 := (f1 (List.take ((f0 (List.take b.length (List.drop 0 b)) 96).fst.length - 48) (List.drop 48 (f0 (List.take b.length (List.drop 0 b)) 96).fst))).fst, c1 := (f1 (List.take 48 (List.drop 0 (f0 (List.take b.length (List.drop 0 b)) 96).fst))).fst } { c0 := (f1 (List.take ((f0 (List.take b.length (List.drop 0 b)) 96).fst.length - 48) (List.drop 48 (f0 (List.take b.length (List.drop 0 b)) 96).fst))).fst, c1 := (f1 (List.take 48 (List.drop 0 (f0 (List.take b.length (List.drop 0 b)) 96).fst))).fst }) { c0 := (f1 (List.take ((f0 (List.take b.length (List.drop 0 b)) 96).fst.length - 48) (List.drop 48 (f0 (List.take b.length (List.drop 0 b)) 96).fst))).fst, c1 := (f1 (List.take 48 (List.drop 0 (f0 (List.take b.length (List.drop 0 b)) 96).fst))).fst }) { c0 := { l0 := UInt64.ofNat 4, l1 := UInt64.ofNat 0, l2 := UInt64.ofNat 0, l3 := UInt64.ofNat 0, l4 := UInt64.ofNat 0, l5 := UInt64.ofNat 0 }, c1 := { l0 := UInt64.ofNat 4, l1 := UInt64.ofNat 0, l2 := UInt64.ofNat 0, l3 := UInt64.ofNat 0, l4 := UInt64.ofNat 0, l5 := UInt64.ofNat 0 } })).fst, inf := false }))
                              (.leaf (some ((({ x := { c0 := { l0 := UInt64.ofNat 0, l1 := UInt64.ofNat 0, l2 := UInt64.ofNat 0, l3 := UInt64.ofNat 0, l4 := UInt64.ofNat 0, l5 := UInt64.ofNat 0 }, c1 := { l0 := UInt64.ofNat 0, l1 := UInt64.ofNat 0, l2 := UInt64.ofNat 0, l3 := UInt64.ofNat 0, l4 := UInt64.ofNat 0, l5 := UInt64.ofNat 0 } }, y := { c0 := { l0 := UInt64.ofNat 0, l1 := UInt64.ofNat 0, l2 := UInt64.ofNat 0, l3 := UInt64.ofNat 0, l4 := UInt64.ofNat 0, l5 := UInt64.ofNat 0 }, c1 := { l0 := UInt64.ofNat 0, l1 := UInt64.ofNat 0, l2 := UInt64.ofNat 0, l3 := UInt64.ofNat 0, l4 := UInt64.ofNat 0, l5 := UInt64.ofNat 0 } }, inf := false }, 6), .t))))
                              (.leaf (some ((({ x := { c0 := (f1 (List.take ((f0 (List.take b.length (List.drop 0 b)) 96).fst.length - 48) (List.drop 48 (f0 (List.take b.length (List.drop 0 b)) 96).fst))).fst, c1 := (f1 (List.take 48 (List.drop 0 (f0 (List.take b.length (List.drop 0 b)) 96).fst))).fst }, y := (f2 (f3 (f4 (f4 { c0 := (f1 (List.take ((f0 (List.take b.length (List.drop 0 b)) 96).fst.length - 48) (List.drop 48 (f0 (List.take b.length (List.drop 0 b)) 96).fst))).fst, c1 := (f1 (List.take 48 (List.drop 0 (f0 (List.take b.length (List.drop 0 b)) 96).fst))).fst } { c0 := (f1 (List.take ((f0 (List.take b.length (List.drop 0 b)) 96).fst.length - 48) (List.drop 48 (f0 (List.take b.length (List.drop 0 b)) 96).fst))).fst, c1 := (f1 (List.take 48 (List.drop 0 (f0 (List.take b.length (List.drop 0 b)) 96).fst))).fst }) { c0 := (f1 (List.take ((f0 (List.take b.length (List.drop 0 b)) 96).fst.length - 48) (List.drop 48 (f0 (List.take b.length (List.drop 0 b)) 96).fst))).fst, c1 := (f1 (List.take 48 (List.drop 0 (f0 (List.take b.length (List.drop 0 b)) 96).fst))).fst }) { c0 := { l0 := UInt64.ofNat 4, l1 := UInt64.ofNat 0, l2 := UInt64.ofNat 0, l3 := UInt64.ofNat 0, l4 := UInt64.ofNat 0, l5 := UInt64.ofNat 0 }, c1 := { l0 := UInt64.ofNat 4, l1 := UInt64.ofNat 0, l2 := UInt64.ofNat 0, l3 := UInt64.ofNat 0, l4 := UInt64.ofNat 0, l5 := UInt64.ofNat 0 } })).fst, inf := false }, 0), .t))))))
                          (.br (!(f6 { x := { c0 := (f1 (List.take ((f0 (List.take b.length (List.drop 0 b)) 96).fst.length - 48) (List.drop 48 (f0 (List.take b.length (List.drop 0 b)) 96).fst))).fst, c1 := (f1 (List.take 48 (List.drop 0 (f0 (List.take b.length (List.drop 0 b)) 96).fst))).fst }, y := (f2 (f3 (f4 (f4 { c0 := (f1 (List.take ((f0 (List.take b.length (List.drop 0 b)) 96).fst.length - 48) (List.drop 48 (f0 (List.take b.length (List.drop 0 b)) 96).fst))).fst, c1 := (f1 (List.take 48 (List.drop 0 (f0 (List.take b.length (List.drop 0 b)) 96).fst))).fst } { c0 := (f1 (List.take ((f0 (List.take b.length (List.drop 0 b)) 96).fst.length - 48) (List.drop 48 (f0 (List.take b.length (List.drop 0 b)) 96).fst))).fst, c1 := (f1 (List.take 48 (List.drop 0 (f0 (List.take b.length (List.drop 0 b)) 96).fst))).fst }) { c0 := (f1 (List.take ((f0 (List.take b.length (List.drop 0 b)) 96).fst.length - 48) (List.drop 48 (f0 (List.take b.length (List.drop 0 b)) 96).fst))).fst, c1 := (f1 (List.take 48 (List.drop 0 (f0 (List.take b.length (List.drop 0 b)) 96).fst))).fst }) { c0 := { l0 := UInt64.ofNat 4, l1 := UInt64.ofNat 0, l2 := UInt64.ofNat 0, l3 := UInt64.ofNat 0, l4 := UInt64.ofNat 0, l5 := UInt64.ofNat 0 }, c1 := { l0 := UInt64.ofNat 4, l1 := UInt64.ofNat 0, l2 := UInt64.ofNat 0, l3 := UInt64.ofNat 0, l4 := UInt64.ofNat 0, l5 := UInt64.ofNat 0 } })).fst, inf := false }))
                            (.leaf (some ((({ x := { c0 := { l0 := UInt64.ofNat 0, l1 := UInt64.ofNat 0, l2 := UInt64.ofNat 0, l3 := UInt64.ofNat 0, l4 := UInt64.ofNat 0, l5 := UInt64.ofNat 0 }, c1 := { l0 := UInt64.ofNat 0, l1 := UInt64.ofNat 0, l2 := UInt64.ofNat 0, l3 := UInt64.ofNat 0, l4 := UInt64.ofNat 0, l5 := UInt64.ofNat 0 } }, y := { c0 := { l0 := UInt64.ofNat 0, l1 := UInt64.ofNat 0, l2 := UInt64.ofNat 0, l3 := UInt64.ofNat 0, l4 := UInt64.ofNat 0, l5 := UInt64.ofNat 0 }, c1 := { l0 := UInt64.ofNat 0, l1 := UInt64.ofNat 0, l2 := UInt64.ofNat 0, l3 := UInt64.ofNat 0, l4 := UInt64.ofNat 0, l5 := UInt64.ofNat 0 } }, inf := false }, 6), .t))))
                            (.leaf (some ((({ x := { c0 := (f1 (List.take ((f0 (List.take b.length (List.drop 0 b)) 96).fst.length - 48) (List.drop 48 (f0 (List.take b.length (List.drop 0 b)) 96).fst))).fst, c1 := (f1 (List.take 48 (List.drop 0 (f0 (List.take b.length (List.drop 0 b)) 96).fst))).fst }, y := (f2 (f3 (f4 (f4 { c0 := (f1 (List.take ((f0 (List.take b.length (List.drop 0 b)) 96).fst.length - 48) (List.drop 48 (f0 (List.take b.length (List.drop 0 b)) 96).fst))).fst, c1 := (f1 (List.take 48 (List.drop 0 (f0 (List.take b.length (List.drop 0 b)) 96).fst))).fst } { c0 := (f1 (List.take ((f0 (List.take b.length (List.drop 0 b)) 96).fst.length - 48) (List.drop 48 (f0 (List.take b.length (List.drop 0 b)) 96).fst))).fst, c1 := (f1 (List.take 48 (List.drop 0 (f0 (List.take b.length (List.drop 0 b)) 96).fst))).fst }) { c0 := (f1 (List.take ((f0 (List.take b.length (List.drop 0 b)) 96).fst.length - 48) (List.drop 48 (f0 (List.take b.length (List.drop 0 b)) 96).fst))).fst, c1 := (f1 (List.take 48 (List.drop 0 (f0 (List.take b.length (List.drop 0 b)) 96).fst))).fst }) { c0 := { l0 := UInt64.ofNat 4, l1 := UInt64.ofNat 0, l2 := UInt64.ofNat 0, l3 := UInt64.ofNat 0, l4 := UInt64.ofNat 0, l5 := UInt64.ofNat 0 }, c1 := { l0 := UInt64.ofNat 4, l1 := UInt64.ofNat 0, l2 := UInt64.ofNat 0, l3 := UInt64.ofNat 0, l4 := UInt64.ofNat 0, l5 := UInt64.ofNat 0 } })).fst, inf := false }, 0), .t)))))))))))))))))
theorem take2F_run (f0 : List UInt8 → Int → List UInt8 × Bool × Bool × Int) (f1 : List UInt8 → Fp × Int) (f2 : Fp2 → Fp2 × Bool) (f3 : Fp2 → Fp2 → Fp2) (f4 : Fp2 → Fp2 → Fp2) (f5 : Pg2 → Pg2) (f6 : Pg2 → Bool) (b : List UInt8) : endT (Ens [(90, K2 aBs aN oB4.res f0), (91, Kftake f1), (100, K1 (kRow Fp2).arg ((kRow Fp2).rs2 kBool).res f2), (101, K2 (kRow Fp2).arg (kRow Fp2).arg (kRow Fp2).rs.res f3), (102, K2 (kRow Fp2).arg (kRow Fp2).arg (kRow Fp2).rs.res f4), (103, K1 (kRow Pg2).arg (kRow Pg2).rs.res f5), (104, K1 (kRow Pg2).arg kBool.rs.res f6)] [90]) ((kRow Pg2).rs2 kInt).out 300 Tryz.f46 (flat (codeOf Tryz.f46)) (startSt Tryz.f46 [iBs.av 0 b] [inHE eU8 b]) = take2F_T f0 f1 f2 f3 f4 f5 f6 b := by kernel_rfl
def take2F (b : List UInt8) : Pg2 × Int := (take2F_T bareF ftakeF sqrtF2 addF2 mulF2 negG2 inG2 b).outD (pg20, 0)
theorem take2F_ok' (h : ∀ (b : List UInt8), iBs.fact b → (take2F_T bareF ftakeF sqrtF2 addF2 mulF2 negG2 inG2 b).full = true ∧ (take2F_T bareF ftakeF sqrtF2 addF2 mulF2 negG2 inG2 b).okAll) : CallOk Tryz.prog 46 (K1 aBs ((kRow Pg2).rs2 kInt).out.res take2F) :=
  Go.Proofs.YtbbnabednkopdaaGreat.G1 (E := Ens [(90, K2 aBs aN oB4.res bareF), (91, Kftake ftakeF), (100, K1 (kRow Fp2).arg ((kRow Fp2).rs2 kBool).res sqrtF2), (101, K2 (kRow Fp2).arg (kRow Fp2).arg (kRow Fp2).rs.res addF2), (102, K2 (kRow Fp2).arg (kRow Fp2).arg (kRow Fp2).rs.res mulF2), (103, K1 (kRow Pg2).arg (kRow Pg2).rs.res negG2), (104, K1 (kRow Pg2).arg kBool.rs.res inG2)] [90]) Tryz.func46 (c := codeOf Tryz.f46) (by kernel_rfl) (bodied Tryz.func46 (by kernel_rfl) (by kernel_rfl)) iBs ((kRow Pg2).rs2 kInt).out take2F fun b hb => DoesL.outs (Ens_ok (.cons bare_ok (.cons ftake_ok (.cons sqrtF2_ok (.cons addF2_ok (.cons mulF2_ok (.cons negG2_ok (.cons inG2_ok .nil)))))))) 300 (pg20, 0) (take2F_run bareF ftakeF sqrtF2 addF2 mulF2 negG2 inG2 b) (h b hb).1 (h b hb).2
def rtake1F_T (f0 : List UInt8 → Int → List UInt8 × Bool × Bool × Int) (f1 : List UInt8 → Fp × Int) (f2 : Fp → Fp × Bool) (f3 : Fp → Fp → Fp) (f4 : Fp → Fp → Fp) (f5 : UInt64 → Fp) (f6 : Fp → Fp) (f7 : Pg1 → Bool) (b : List UInt8) : Tree (Option ((Pg1 × Int) × Pr)) :=
  (.vc (((0 + b.length ≤ b.length ∧ b.length < 1125899906842624 ∧ 0 = 0 ∧ 1 = 1) ∧ littleB (List.take b.length (List.drop 0 b))) ∧ sizeB 48)
    (.br ((f0 (List.take b.length (List.drop 0 b)) 48).snd.snd.snd != 0)
      (.leaf (some ((({ x := { l0 := UInt64.ofNat 0, l1 := UInt64.ofNat 0, l2 := UInt64.ofNat 0, l3 := UInt64.ofNat 0, l4 := UInt64.ofNat 0, l5 := UInt64.ofNat 0 }, y := { l0 := UInt64.ofNat 0, l1 := UInt64.ofNat 0, l2 := UInt64.ofNat 0, l3 := UInt64.ofNat 0, l4 := UInt64.ofNat 0, l5 := UInt64.ofNat 0 }, inf := (f0 (List.take b.length (List.drop 0 b)) 48).snd.fst }, (f0 (List.take b.length (List.drop 0 b)) 48).snd.snd.snd), .t))))
      (.br ((f0 (List.take b.length (List.drop 0 b)) 48).snd.fst)
        (.leaf (some ((({ x := { l0 := UInt64.ofNat 0, l1 := UInt64.ofNat 0, l2 := UInt64.ofNat 0, l3 := UInt64.ofNat 0, l4 := UInt64.ofNat 0, l5 := UInt64.ofNat 0 }, y := { l0 := UInt64.ofNat 0, l1 := UInt64.ofNat 0, l2 := UInt64.ofNat 0, l3 := UInt64.ofNat 0, l4 := UInt64.ofNat 0, l5 := UInt64.ofNat 0 }, inf := (f0 (List.take b.length (List.drop 0 b)) 48).snd.fst }, (f0 (List.take b.length (List.drop 0 b)) 48).snd.snd.snd), .t))))
        (.vc ((0 + (f0 (List.take b.length (List.drop 0 b)) 48).fst.length ≤ (f0 (List.take b.length (List.drop 0 b)) 48).fst.length ∧ (f0 (List.take b.length (List.drop 0 b)) 48).fst.length < 1125899906842624 ∧ 0 = 0 ∧ 1 = 1) ∧ littleB (List.take (f0 (List.take b.length (List.drop 0 b)) 48).fst.length (List.drop 0 (f0 (List.take b.length (List.drop 0 b)) 48).fst)))
          (.br ((f1 (List.take (f0 (List.take b.length (List.drop 0 b)) 48).fst.length (List.drop 0 (f0 (List.take b.length (List.drop 0 b)) 48).fst))).snd != 0)
            (.leaf (some ((({ x := { l0 := UInt64.ofNat 0, l1 := UInt64.ofNat 0, l2 := UInt64.ofNat 0, l3 := UInt64.ofNat 0, l4 := UInt64.ofNat 0, l5 := UInt64.ofNat 0 }, y := { l0 := UInt64.ofNat 0, l1 := UInt64.ofNat 0, l2 := UInt64.ofNat 0, l3 := UInt64.ofNat 0, l4 := UInt64.ofNat 0, l5 := UInt64.ofNat 0 }, inf := false }, (f1 (List.take (f0 (List.take b.length (List.drop 0 b)) 48).fst.length (List.drop 0 (f0 (List.take b.length (List.drop 0 b)) 48).fst))).snd), .t))))
            (.br (!((f2 (f3 (f4 (f4 (f1 (List.take (f0 (List.take b.length (List.drop 0 b)) 48).fst.length (List.drop 0 (f0 (List.take b.length (List.drop 0 b)) 48).fst))).fst (f1 (List.take (f0 (List.take b.length (List.drop 0 b)) 48).fst.length (List.drop 0 (f0 (List.take b.length (List.drop 0 b)) 48).fst))).fst) (f1 (List.take (f0 (List.take b.length (List.drop 0 b)) 48).fst.length (List.drop 0 (f0 (List.take b.length (List.drop 0 b)) 48).fst))).fst) (f5 (UInt64.ofNat 4)))).snd))
              (.leaf (some ((({ x := { l0 := UInt64.ofNat 0, l1 := UInt64.ofNat 0, l2 := UInt64.ofNat 0, l3 := UInt64.ofNat 0, l4 := UInt64.ofNat 0, l5 := UInt64.ofNat 0 }, y := { l0 := UInt64.ofNat 0, l1 := UInt64.ofNat 0, l2 := UInt64.ofNat 0, l3 := UInt64.ofNat 0, l4 := UInt64.ofNat 0, l5 := UInt64.ofNat 0 }, inf := false }, 5), .t))))
              (.br (fpEq ((f2 (f3 (f4 (f4 (f1 (List.take (f0 (List.take b.length (List.drop 0 b)) 48).fst.length (List.drop 0 (f0 (List.take b.length (List.drop 0 b)) 48).fst))).fst (f1 (List.take (f0 (List.take b.length (List.drop 0 b)) 48).fst.length (List.drop 0 (f0 (List.take b.length (List.drop 0 b)) 48).fst))).fst) (f1 (List.take (f0 (List.take b.length (List.drop 0 b)) 48).fst.length (List.drop 0 (f0 (List.take b.length (List.drop 0 b)) 48).fst))).fst) (f5 (UInt64.ofNat 4)))).fst) ({ l0 := UInt64.ofNat 0, l1 := UInt64.ofNat 0, l2 := UInt64.ofNat 0, l3 := UInt64.ofNat 0, l4 := UInt64.ofNat 0, l5 := UInt64.ofNat 0 }))
                (.br ((f0 (List.take b.length (List.drop 0 b)) 48).snd.snd.fst)
                  (.leaf (some ((({ x := { l0 := UInt64.ofNat 0, l1 := UInt64.ofNat 0, l2 := UInt64.ofNat 0, l3 := UInt64.ofNat 0, l4 := UInt64.ofNat 0, l5 := UInt64.ofNat 0 }, y := { l0 := UInt64.ofNat 0, l1 := UInt64.ofNat 0, l2 := UInt64.ofNat 0, l3 := UInt64.ofNat 0, l4 := UInt64.ofNat 0, l5 := UInt64.ofNat 0 }, inf := false }, 3), .t))))
                  (.br ((f0 (List.take b.length (List.drop 0 b)) 48).snd.snd.fst)
                    (.br (!(f7 { x := (f1 (List.take (f0 (List.take b.length (List.drop 0 b)) 48).fst.length (List.drop 0 (f0 (List.take b.length (List.drop 0 b)) 48).fst))).fst, y := f6 (f2 (f3 (f4 (f4 (f1 (List.take (f0 (List.take b.length (List.drop 0 b)) 48).fst.length (List.drop 0 (f0 (List.take b.length (List.drop 0 b)) 48).fst))).fst (f1 (List.take (f0 (List.take b.length (List.drop 0 b)) 48).fst.length (List.drop 0 (f0 (List.take b.length (List.drop 0 b)) 48).fst))).fst) (f1 (List.take (f0 (List.take b.length (List.drop 0 b)) 48).fst.length (List.drop 0 (f0 (List.take b.length (List.drop 0 b)) 48).fst))).fst) (f5 (UInt64.ofNat 4)))).fst, inf := false }))
                      (.leaf (some ((({ x := { l0 := UInt64.ofNat 0, l1 := UInt64.ofNat 0, l2 := UInt64.ofNat 0, l3 := UInt64.ofNat 0, l4 := UInt64.ofNat 0, l5 := UInt64.ofNat 0 }, y := { l0 := UInt64.ofNat 0, l1 := UInt64.ofNat 0, l2 := UInt64.ofNat 0, l3 := UInt64.ofNat 0, l4 := UInt64.ofNat 0, l5 := UInt64.ofNat 0 }, inf := false }, 6), .t))))
                      (.leaf (some ((({ x := (f1 (List.take (f0 (List.take b.length (List.drop 0 b)) 48).fst.length (List.drop 0 (f0 (List.take b.length (List.drop 0 b)) 48).fst))).fst, y := f6 (f2 (f3 (f4 (f4 (f1 (List.take (f0 (List.take b.length (List.drop 0 b)) 48).fst.length (List.drop 0 (f0 (List.take b.length (List.drop 0 b)) 48).fst))).fst (f1 (List.take (f0 (List.take b.length (List.drop 0 b)) 48).fst.length (List.drop 0 (f0 (List.take b.length (List.drop 0 b)) 48).fst))).fst) (f1 (List.take (f0 (List.take b.length (List.drop 0 b)) 48).fst.length (List.drop 0 (f0 (List.take b.length (List.drop 0 b)) 48).fst))).fst) (f5 (UInt64.ofNat 4)))).fst, inf := false }, 0), .t)))))
                    (.br (!(f7 { x := (f1 (List.take (f0 (List.take b.length (List.drop 0 b)) 48).fst.length (List.drop 0 (f0 (List.take b.length (List.drop 0 b)) 48).fst))).fst, y := (f2 (f3 (f4 (f4 (f1 (List.take (f0 (List.take b.length (List.drop 0 b)) 48).fst.length (List.drop 0 (f0 (List.take b.length (List.drop 0 b)) 48).fst))).fst (f1 (List.take (f0 (List.take b.length (List.drop 0 b)) 48).fst.length (List.drop 0 (f0 (List.take b.length (List.drop 0 b)) 48).fst))).fst) (f1 (List.take (f0 (List.take b.length (List.drop 0 b)) 48).fst.length (List.drop 0 (f0 (List.take b.length (List.drop 0 b)) 48).fst))).fst) (f5 (UInt64.ofNat 4)))).fst, inf := false }))
                      (.leaf (some ((({ x := { l0 := UInt64.ofNat 0, l1 := UInt64.ofNat 0, l2 := UInt64.ofNat 0, l3 := UInt64.ofNat 0, l4 := UInt64.ofNat 0, l5 := UInt64.ofNat 0 }, y := { l0 := UInt64.ofNat 0, l1 := UInt64.ofNat 0, l2 := UInt64.ofNat 0, l3 := UInt64.ofNat 0, l4 := UInt64.ofNat 0, l5 := UInt64.ofNat 0 }, inf := false }, 6), .t))))
                      (.leaf (some ((({ x := (f1 (List.take (f0 (List.take b.length (List.drop 0 b)) 48).fst.length (List.drop 0 (f0 (List.take b.length (List.drop 0 b)) 48).fst))).fst, y := (f2 (f3 (f4 (f4 (f1 (List.take (f0 (List.take b.length (List.drop 0 b)) 48).fst.length (List.drop 0 (f0 (List.take b.length (List.drop 0 b)) 48).fst))).fst (f1 (List.take (f0 (List.take b.length (List.drop 0 b)) 48).fst.length (List.drop 0 (f0 (List.take b.length (List.drop 0 b)) 48).fst))).fst) (f1 (List.take (f0 (List.take b.length (List.drop 0 b)) 48).fst.length (List.drop 0 (f0 (List.take b.length (List.drop 0 b)) 48).fst))).fst) (f5 (UInt64.ofNat 4)))).fst, inf := false }, 0), .t)))))))
                (.br ((f0 (List.take b.length (List.drop 0 b)) 48).snd.snd.fst)
                  (.br (!(f7 { x := (f1 (List.take (f0 (List.take b.length (List.drop 0 b)) 48).fst.length (List.drop 0 (f0 (List.take b.length (List.drop 0 b)) 48).fst))).fst, y := f6 (f2 (f3 (f4 (f4 (f1 (List.take (f0 (List.take b.length (List.drop 0 b)) 48).fst.length (List.drop 0 (f0 (List.take b.length (List.drop 0 b)) 48).fst))).fst (f1 (List.take (f0 (List.take b.length (List.drop 0 b)) 48).fst.length (List.drop 0 (f0 (List.take b.length (List.drop 0 b)) 48).fst))).fst) (f1 (List.take (f0 (List.take b.length (List.drop 0 b)) 48).fst.length (List.drop 0 (f0 (List.take b.length (List.drop 0 b)) 48).fst))).fst) (f5 (UInt64.ofNat 4)))).fst, inf := false }))
                    (.leaf (some ((({ x := { l0 := UInt64.ofNat 0, l1 := UInt64.ofNat 0, l2 := UInt64.ofNat 0, l3 := UInt64.ofNat 0, l4 := UInt64.ofNat 0, l5 := UInt64.ofNat 0 }, y := { l0 := UInt64.ofNat 0, l1 := UInt64.ofNat 0, l2 := UInt64.ofNat 0, l3 := UInt64.ofNat 0, l4 := UInt64.ofNat 0, l5 := UInt64.ofNat 0 }, inf := false }, 6), .t))))
                    (.leaf (some ((({ x := (f1 (List.take (f0 (List.take b.length (List.drop 0 b)) 48).fst.length (List.drop 0 (f0 (List.take b.length (List.drop 0 b)) 48).fst))).fst, y := f6 (f2 (f3 (f4 (f4 (f1 (List.take (f0 (List.take b.length (List.drop 0 b)) 48).fst.length (List.drop 0 (f0 (List.take b.length (List.drop 0 b)) 48).fst))).fst (f1 (List.take (f0 (List.take b.length (List.drop 0 b)) 48).fst.length (List.drop 0 (f0 (List.take b.length (List.drop 0 b)) 48).fst))).fst) (f1 (List.take (f0 (List.take b.length (List.drop 0 b)) 48).fst.length (List.drop 0 (f0 (List.take b.length (List.drop 0 b)) 48).fst))).fst) (f5 (UInt64.ofNat 4)))).fst, inf := false }, 0), .t)))))
                  (.br (!(f7 { x := (f1 (List.take (f0 (List.take b.length (List.drop 0 b)) 48).fst.length (List.drop 0 (f0 (List.take b.length (List.drop 0 b)) 48).fst))).fst, y := (f2 (f3 (f4 (f4 (f1 (List.take (f0 (List.take b.length (List.drop 0 b)) 48).fst.length (List.drop 0 (f0 (List.take b.length (List.drop 0 b)) 48).fst))).fst (f1 (List.take (f0 (List.take b.length (List.drop 0 b)) 48).fst.length (List.drop 0 (f0 (List.take b.length (List.drop 0 b)) 48).fst))).fst) (f1 (List.take (f0 (List.take b.length (List.drop 0 b)) 48).fst.length (List.drop 0 (f0 (List.take b.length (List.drop 0 b)) 48).fst))).fst) (f5 (UInt64.ofNat 4)))).fst, inf := false }))
                    (.leaf (some ((({ x := { l0 := UInt64.ofNat 0, l1 := UInt64.ofNat 0, l2 := UInt64.ofNat 0, l3 := UInt64.ofNat 0, l4 := UInt64.ofNat 0, l5 := UInt64.ofNat 0 }, y := { l0 := UInt64.ofNat 0, l1 := UInt64.ofNat 0, l2 := UInt64.ofNat 0, l3 := UInt64.ofNat 0, l4 := UInt64.ofNat 0, l5 := UInt64.ofNat 0 }, inf := false }, 6), .t))))
                    (.leaf (some ((({ x := (f1 (List.take (f0 (List.take b.length (List.drop 0 b)) 48).fst.length (List.drop 0 (f0 (List.take b.length (List.drop 0 b)) 48).fst))).fst, y := (f2 (f3 (f4 (f4 (f1 (List.take (f0 (List.take b.length (List.drop 0 b)) 48).fst.length (List.drop 0 (f0 (List.take b.length (List.drop 0 b)) 48).fst))).fst (f1 (List.take (f0 (List.take b.length (List.drop 0 b)) 48).fst.length (List.drop 0 (f0 (List.take b.length (List.drop 0 b)) 48).fst))).fst) (f1 (List.take (f0 (List.take b.length (List.drop 0 b)) 48).fst.length (List.drop 0 (f0 (List.take b.length (List.drop 0 b)) 48).fst))).fst) (f5 (UInt64.ofNat 4)))).fst, inf := false }, 0), .t)))))))))))))
theorem rtake1F_run (f0 : List UInt8 → Int → List UInt8 × Bool × Bool × Int) (f1 : List UInt8 → Fp × Int) (f2 : Fp → Fp × Bool) (f3 : Fp → Fp → Fp) (f4 : Fp → Fp → Fp) (f5 : UInt64 → Fp) (f6 : Fp → Fp) (f7 : Pg1 → Bool) (b : List UInt8) : endT (Ens [(98, K2 aBs aN oB4.res f0), (99, Kftake f1), (64, Ksqrt f2), (65, Kff f3), (66, Kff f4), (63, Kof f5), (70, Kf f6), (29, K1 (kRow Pg1).arg kBool.rs.res f7)] [98]) ((kRow Pg1).rs2 kInt).out 300 Tryz.f45 (flat (codeOf Tryz.f45)) (startSt Tryz.f45 [iBs.av 0 b] [inHE eU8 b]) = rtake1F_T f0 f1 f2 f3 f4 f5 f6 f7 b := by kernel_rfl
def rtake1F (b : List UInt8) : Pg1 × Int := (rtake1F_T headF rftakeF sqrtPF addPF mulPF ofF negPF in1R b).outD (pg10, 0)
theorem rtake1F_ok' (h : ∀ (b : List UInt8), iBs.fact b → (rtake1F_T headF rftakeF sqrtPF addPF mulPF ofF negPF in1R b).full = true ∧ (rtake1F_T headF rftakeF sqrtPF addPF mulPF ofF negPF in1R b).okAll) : CallOk Tryz.prog 45 (K1 aBs ((kRow Pg1).rs2 kInt).out.res rtake1F) :=
  Go.Proofs.YtbbnabednkopdaaGreat.G1 (E := Ens [(98, K2 aBs aN oB4.res headF), (99, Kftake rftakeF), (64, Ksqrt sqrtPF), (65, Kff addPF), (66, Kff mulPF), (63, Kof ofF), (70, Kf negPF), (29, K1 (kRow Pg1).arg kBool.rs.res in1R)] [98]) Tryz.func45 (c := codeOf Tryz.f45) (by kernel_rfl) (bodied Tryz.func45 (by kernel_rfl) (by kernel_rfl)) iBs ((kRow Pg1).rs2 kInt).out rtake1F fun b hb => DoesL.outs (Ens_ok (.cons head_ok (.cons rftake_ok (.cons sqrtP_ok (.cons addP_ok (.cons mulP_ok (.cons ofP_ok (.cons negP_ok (.cons in1R_ok .nil))))))))) 300 (pg10, 0) (rtake1F_run headF rftakeF sqrtPF addPF mulPF ofF negPF in1R b) (h b hb).1 (h b hb).2
def rtake2F_T (f0 : List UInt8 → Int → List UInt8 × Bool × Bool × Int) (f1 : List UInt8 → Fp × Int) (f2 : Fp2 → Fp2 × Bool) (f3 : Fp2 → Fp2 → Fp2) (f4 : Fp2 → Fp2 → Fp2) (f5 : Fp2) (f6 : Fp2 → Fp2) (f7 : Pg2 → Bool) (b : List UInt8) : Tree (Option ((Pg2 × Int) × Pr)) :=
  (.vc (((0 + b.length ≤ b.length ∧ b.length < 1125899906842624 ∧ 0 = 0 ∧ 1 = 1) ∧ littleB (List.take b.length (List.drop 0 b))) ∧ sizeB 96)
    (.br ((f0 (List.take b.length (List.drop 0 b)) 96).snd.snd.snd != 0)
      (.leaf (some ((({ x := { c0 := { l0 := UInt64.ofNat 0, l1 := UInt64.ofNat 0, l2 := UInt64.ofNat 0, l3 := UInt64.ofNat 0, l4 := UInt64.ofNat 0, l5 := UInt64.ofNat 0 }, c1 := { l0 := UInt64.ofNat 0, l1 := UInt64.ofNat 0, l2 := UInt64.ofNat 0, l3 := UInt64.ofNat 0, l4 := UInt64.ofNat 0, l5 := UInt64.ofNat 0 } }, y := { c0 := { l0 := UInt64.ofNat 0, l1 := UInt64.ofNat 0, l2 := UInt64.ofNat 0, l3 := UInt64.ofNat 0, l4 := UInt64.ofNat 0, l5 := UInt64.ofNat 0 }, c1 := { l0 := UInt64.ofNat 0, l1 := UInt64.ofNat 0, l2 := UInt64.ofNat 0, l3 := UInt64.ofNat 0, l4 := UInt64.ofNat 0, l5 := UInt64.ofNat 0 } }, inf := (f0 (List.take b.length (List.drop 0 b)) 96).snd.fst }, (f0 (List.take b.length (List.drop 0 b)) 96).snd.snd.snd), .t))))
      (.br ((f0 (List.take b.length (List.drop 0 b)) 96).snd.fst)
        (.leaf (some ((({ x := { c0 := { l0 := UInt64.ofNat 0, l1 := UInt64.ofNat 0, l2 := UInt64.ofNat 0, l3 := UInt64.ofNat 0, l4 := UInt64.ofNat 0, l5 := UInt64.ofNat 0 }, c1 := { l0 := UInt64.ofNat 0, l1 := UInt64.ofNat 0, l2 := UInt64.ofNat 0, l3 := UInt64.ofNat 0, l4 := UInt64.ofNat 0, l5 := UInt64.ofNat 0 } }, y := { c0 := { l0 := UInt64.ofNat 0, l1 := UInt64.ofNat 0, l2 := UInt64.ofNat 0, l3 := UInt64.ofNat 0, l4 := UInt64.ofNat 0, l5 := UInt64.ofNat 0 }, c1 := { l0 := UInt64.ofNat 0, l1 := UInt64.ofNat 0, l2 := UInt64.ofNat 0, l3 := UInt64.ofNat 0, l4 := UInt64.ofNat 0, l5 := UInt64.ofNat 0 } }, inf := (f0 (List.take b.length (List.drop 0 b)) 96).snd.fst }, (f0 (List.take b.length (List.drop 0 b)) 96).snd.snd.snd), .t))))
        (.vc (0 ≤ 48 ∧ 48 ≤ (f0 (List.take b.length (List.drop 0 b)) 96).fst.length ∧ 0 + (f0 (List.take b.length (List.drop 0 b)) 96).fst.length * 1 ≤ (List.map EK.u8.cell (f0 (List.take b.length (List.drop 0 b)) 96).fst).length ∧ 0 < 1 ∧ (0 = 0 ∨ 0 < 48) ∧ 0 = 0 ∧ 1 = 1)
          (.vc ((48 ≤ (f0 (List.take b.length (List.drop 0 b)) 96).fst.length ∧ 48 < 1125899906842624 ∧ 0 = 0 ∧ 1 = 1) ∧ littleB (List.take 48 (List.drop 0 (f0 (List.take b.length (List.drop 0 b)) 96).fst)))
            (.br ((f1 (List.take 48 (List.drop 0 (f0 (List.take b.length (List.drop 0 b)) 96).fst))).snd == 0)
              (.vc (48 ≤ (f0 (List.take b.length (List.drop 0 b)) 96).fst.length ∧ (f0 (List.take b.length (List.drop 0 b)) 96).fst.length ≤ (f0 (List.take b.length (List.drop 0 b)) 96).fst.length ∧ 0 + (f0 (List.take b.length (List.drop 0 b)) 96).fst.length * 1 ≤ (List.map EK.u8.cell (f0 (List.take b.length (List.drop 0 b)) 96).fst).length ∧ 0 < 1 ∧ (48 = 0 ∨ 48 < (f0 (List.take b.length (List.drop 0 b)) 96).fst.length) ∧ 0 = 0 ∧ 1 = 1)
                (.vc ((48 + ((f0 (List.take b.length (List.drop 0 b)) 96).fst.length - 48) ≤ (f0 (List.take b.length (List.drop 0 b)) 96).fst.length ∧ (f0 (List.take b.length (List.drop 0 b)) 96).fst.length - 48 < 1125899906842624 ∧ 48 = 48 ∧ 1 = 1) ∧ littleB (List.take ((f0 (List.take b.length (List.drop 0 b)) 96).fst.length - 48) (List.drop 48 (f0 (List.take b.length (List.drop 0 b)) 96).fst)))
                  (.br ((f1 (List.take ((f0 (List.take b.length (List.drop 0 b)) 96).fst.length - 48) (List.drop 48 (f0 (List.take b.length (List.drop 0 b)) 96).fst))).snd != 0)
                    (.leaf (some ((({ x := { c0 := { l0 := UInt64.ofNat 0, l1 := UInt64.ofNat 0, l2 := UInt64.ofNat 0, l3 := UInt64.ofNat 0, l4 := UInt64.ofNat 0, l5 := UInt64.ofNat 0 }, c1 := { l0 := UInt64.ofNat 0, l1 := UInt64.ofNat 0, l2 := UInt64.ofNat 0, l3 := UInt64.ofNat 0, l4 := UInt64.ofNat 0, l5 := UInt64.ofNat 0 } }, y := { c0 := { l0 := UInt64.ofNat 0, l1 := UInt64.ofNat 0, l2 := UInt64.ofNat 0, l3 := UInt64.ofNat 0, l4 := UInt64.ofNat 0, l5 := UInt64.ofNat 0 }, c1 := { l0 := UInt64.ofNat 0, l1 := UInt64.ofNat 0, l2 := UInt64.ofNat 0, l3 := UInt64.ofNat 0, l4 := UInt64.ofNat 0, l5 := UInt64.ofNat 0 } }, inf := false }, (f1 (List.take ((f0 (List.take b.length (List.drop 0 b)) 96).fst.length - 48) (List.drop 48 (f0 (List.take b.length (List.drop 0 b)) 96).fst))).snd), .t))))
                    (.br (!((f2 (f3 (f4 (f4 { c0 := (f1 (List.take ((f0 (List.take b.length (List.drop 0 b)) 96).fst.length - 48) (List.drop 48 (f0 (List.take b.length (List.drop 0 b)) 96).fst))).fst, c1 := (f1 (List.take 48 (List.drop 0 (f0 (List.take b.length (List.drop 0 b)) 96).fst))).fst } { c0 := (f1 (List.take ((f0 (List.take b.length (List.drop 0 b)) 96).fst.length - 48) (List.drop 48 (f0 (List.take b.length (List.drop 0 b)) 96).fst))).fst, c1 := (f1 (List.take 48 (List.drop 0 (f0 (List.take b.length (List.drop 0 b)) 96).fst))).fst }) { c0 := (f1 (List.take ((f0 (List.take b.length (List.drop 0 b)) 96).fst.length - 48) (List.drop 48 (f0 (List.take b.length (List.drop 0 b)) 96).fst))).fst, c1 := (f1 (List.take 48 (List.drop 0 (f0 (List.take b.length (List.drop 0 b)) 96).fst))).fst }) f5)).snd))
                      (.leaf (some ((({ x := { c0 := { l0 := UInt64.ofNat 0, l1 := UInt64.ofNat 0, l2 := UInt64.ofNat 0, l3 := UInt64.ofNat 0, l4 := UInt64.ofNat 0, l5 := UInt64.ofNat 0 }, c1 := { l0 := UInt64.ofNat 0, l1 := UInt64.ofNat 0, l2 := UInt64.ofNat 0, l3 := UInt64.ofNat 0, l4 := UInt64.ofNat 0, l5 := UInt64.ofNat 0 } }, y := { c0 := { l0 := UInt64.ofNat 0, l1 := UInt64.ofNat 0, l2 := UInt64.ofNat 0, l3 := UInt64.ofNat 0, l4 := UInt64.ofNat 0, l5 := UInt64.ofNat 0 }, c1 := { l0 := UInt64.ofNat 0, l1 := UInt64.ofNat 0, l2 := UInt64.ofNat 0, l3 := UInt64.ofNat 0, l4 := UInt64.ofNat 0, l5 := UInt64.ofNat 0 } }, inf := false }, 5), .t))))
                      (.br (fp2Eq ((f2 (f3 (f4 (f4 { c0 := (f1 (List.take ((f0 (List.take b.length (List.drop 0 b)) 96).fst.length - 48) (List.drop 48 (f0 (List.take b.length (List.drop 0 b)) 96).fst))).fst, c1 := (f1 (List.take 48 (List.drop 0 (f0 (List.take b.length (List.drop 0 b)) 96).fst))).fst } { c0 := (f1 (List.take ((f0 (List.take b.length (List.drop 0 b)) 96).fst.length - 48) (List.drop 48 (f0 (List.take b.length (List.drop 0 b)) 96).fst))).fst, c1 := (f1 (List.take 48 (List.drop 0 (f0 (List.take b.length (List.drop 0 b)) 96).fst))).fst }) { c0 := (f1 (List.take ((f0 (List.take b.length (List.drop 0 b)) 96).fst.length - 48) (List.drop 48 (f0 (List.take b.length (List.drop 0 b)) 96).fst))).fst, c1 := (f1 (List.take 48 (List.drop 0 (f0 (List.take b.length (List.drop 0 b)) 96).fst))).fst }) f5)).fst) ({ c0 := { l0 := UInt64.ofNat 0, l1 := UInt64.ofNat 0, l2 := UInt64.ofNat 0, l3 := UInt64.ofNat 0, l4 := UInt64.ofNat 0, l5 := UInt64.ofNat 0 }, c1 := { l0 := UInt64.ofNat 0, l1 := UInt64.ofNat 0, l2 := UInt64.ofNat 0, l3 := UInt64.ofNat 0, l4 := UInt64.ofNat 0, l5 := UInt64.ofNat 0 } }))
                        (.br ((f0 (List.take b.length (List.drop 0 b)) 96).snd.snd.fst)
                          (.leaf (some ((({ x := { c0 := { l0 := UInt64.ofNat 0, l1 := UInt64.ofNat 0, l2 := UInt64.ofNat 0, l3 := UInt64.ofNat 0, l4 := UInt64.ofNat 0, l5 := UInt64.ofNat 0 }, c1 := { l0 := UInt64.ofNat 0, l1 := UInt64.ofNat 0, l2 := UInt64.ofNat 0, l3 := UInt64.ofNat 0, l4 := UInt64.ofNat 0, l5 := UInt64.ofNat 0 } }, y := { c0 := { l0 := UInt64.ofNat 0, l1 := UInt64.ofNat 0, l2 := UInt64.ofNat 0, l3 := UInt64.ofNat 0, l4 := UInt64.ofNat 0, l5 := UInt64.ofNat 0 }, c1 := { l0 := UInt64.ofNat 0, l1 := UInt64.ofNat 0, l2 := UInt64.ofNat 0, l3 := UInt64.ofNat 0, l4 := UInt64.ofNat 0, l5 := UInt64.ofNat 0 } }, inf := false }, 3), .t))))
                          (.br ((f0 (List.take b.length (List.drop 0 b)) 96).snd.snd.fst)
                            (.br (!(f7 { x := { c0 := (f1 (List.take ((f0 (List.take b.length (List.drop 0 b)) 96).fst.length - 48) (List.drop 48 (f0 (List.take b.length (List.drop 0 b)) 96).fst))).fst, c1 := (f1 (List.take 48 (List.drop 0 (f0 (List.take b.length (List.drop 0 b)) 96).fst))).fst }, y := f6 (f2 (f3 (f4 (f4 { c0 := (f1 (List.take ((f0 (List.take b.length (List.drop 0 b)) 96).fst.length - 48) (List.drop 48 (f0 (List.take b.length (List.drop 0 b)) 96).fst))).fst, c1 := (f1 (List.take 48 (List.drop 0 (f0 (List.take b.length (List.drop 0 b)) 96).fst))).fst } { c0 := (f1 (List.take ((f0 (List.take b.length (List.drop 0 b)) 96).fst.length - 48) (List.drop 48 (f0 (List.take b.length (List.drop 0 b)) 96).fst))).fst, c1 := (f1 (List.take 48 (List.drop 0 (f0 (List.take b.length (List.drop 0 b)) 96).fst))).fst }) { c0 := (f1 (List.take ((f0 (List.take b.length (List.drop 0 b)) 96).fst.length - 48) (List.drop 48 (f0 (List.take b.length (List.drop 0 b)) 96).fst))).fst, c1 := (f1 (List.take 48 (List.drop 0 (f0 (List.take b.length (List.drop 0 b)) 96).fst))).fst }) f5)).fst, inf := false }))
                              (.leaf (some ((({ x := { c0 := { l0 := UInt64.ofNat 0, l1 := UInt64.ofNat 0, l2 := UInt64.ofNat 0, l3 := UInt64.ofNat 0, l4 := UInt64.ofNat 0, l5 := UInt64.ofNat 0 }, c1 := { l0 := UInt64.ofNat 0, l1 := UInt64.ofNat 0, l2 := UInt64.ofNat 0, l3 := UInt64.ofNat 0, l4 := UInt64.ofNat 0, l5 := UInt64.ofNat 0 } }, y := { c0 := { l0 := UInt64.ofNat 0, l1 := UInt64.ofNat 0, l2 := UInt64.ofNat 0, l3 := UInt64.ofNat 0, l4 := UInt64.ofNat 0, l5 := UInt64.ofNat 0 }, c1 := { l0 := UInt64.ofNat 0, l1 := UInt64.ofNat 0, l2 := UInt64.ofNat 0, l3 := UInt64.ofNat 0, l4 := UInt64.ofNat 0, l5 := UInt64.ofNat 0 } }, inf := false }, 6), .t))))
                              (.leaf (some ((({ x := { c0 := (f1 (List.take ((f0 (List.take b.length (List.drop 0 b)) 96).fst.length - 48) (List.drop 48 (f0 (List.take b.length (List.drop 0 b)) 96).fst))).fst, c1 := (f1 (List.take 48 (List.drop 0 (f0 (List.take b.length (List.drop 0 b)) 96).fst))).fst }, y := f6 (f2 (f3 (f4 (f4 { c0 := (f1 (List.take ((f0 (List.take b.length (List.drop 0 b)) 96).fst.length - 48) (List.drop 48 (f0 (List.take b.length (List.drop 0 b)) 96).fst))).fst, c1 := (f1 (List.take 48 (List.drop 0 (f0 (List.take b.length (List.drop 0 b)) 96).fst))).fst } { c0 := (f1 (List.take ((f0 (List.take b.length (List.drop 0 b)) 96).fst.length - 48) (List.drop 48 (f0 (List.take b.length (List.drop 0 b)) 96).fst))).fst, c1 := (f1 (List.take 48 (List.drop 0 (f0 (List.take b.length (List.drop 0 b)) 96).fst))).fst }) { c0 := (f1 (List.take ((f0 (List.take b.length (List.drop 0 b)) 96).fst.length - 48) (List.drop 48 (f0 (List.take b.length (List.drop 0 b)) 96).fst))).fst, c1 := (f1 (List.take 48 (List.drop 0 (f0 (List.take b.length (List.drop 0 b)) 96).fst))).fst }) f5)).fst, inf := false }, 0), .t)))))
                            (.br (!(f7 { x := { c0 := (f1 (List.take ((f0 (List.take b.length (List.drop 0 b)) 96).fst.length - 48) (List.drop 48 (f0 (List.take b.length (List.drop 0 b)) 96).fst))).fst, c1 := (f1 (List.take 48 (List.drop 0 (f0 (List.take b.length (List.drop 0 b)) 96).fst))).fst }, y := (f2 (f3 (f4 (f4 { c0 := (f1 (List.take ((f0 (List.take b.length (List.drop 0 b)) 96).fst.length - 48) (List.drop 48 (f0 (List.take b.length (List.drop 0 b)) 96).fst))).fst, c1 := (f1 (List.take 48 (List.drop 0 (f0 (List.take b.length (List.drop 0 b)) 96).fst))).fst } { c0 := (f1 (List.take ((f0 (List.take b.length (List.drop 0 b)) 96).fst.length - 48) (List.drop 48 (f0 (List.take b.length (List.drop 0 b)) 96).fst))).fst, c1 := (f1 (List.take 48 (List.drop 0 (f0 (List.take b.length (List.drop 0 b)) 96).fst))).fst }) { c0 := (f1 (List.take ((f0 (List.take b.length (List.drop 0 b)) 96).fst.length - 48) (List.drop 48 (f0 (List.take b.length (List.drop 0 b)) 96).fst))).fst, c1 := (f1 (List.take 48 (List.drop 0 (f0 (List.take b.length (List.drop 0 b)) 96).fst))).fst }) f5)).fst, inf := false }))
                              (.leaf (some ((({ x := { c0 := { l0 := UInt64.ofNat 0, l1 := UInt64.ofNat 0, l2 := UInt64.ofNat 0, l3 := UInt64.ofNat 0, l4 := UInt64.ofNat 0, l5 := UInt64.ofNat 0 }, c1 := { l0 := UInt64.ofNat 0, l1 := UInt64.ofNat 0, l2 := UInt64.ofNat 0, l3 := UInt64.ofNat 0, l4 := UInt64.ofNat 0, l5 := UInt64.ofNat 0 } }, y := { c0 := { l0 := UInt64.ofNat 0, l1 := UInt64.ofNat 0, l2 := UInt64.ofNat 0, l3 := UInt64.ofNat 0, l4 := UInt64.ofNat 0, l5 := UInt64.ofNat 0 }, c1 := { l0 := UInt64.ofNat 0, l1 := UInt64.ofNat 0, l2 := UInt64.ofNat 0, l3 := UInt64.ofNat 0, l4 := UInt64.ofNat 0, l5 := UInt64.ofNat 0 } }, inf := false }, 6), .t))))
                              (.leaf (some ((({ x := { c0 := (f1 (List.take ((f0 (List.take b.length (List.drop 0 b)) 96).fst.length - 48) (List.drop 48 (f0 (List.take b.length (List.drop 0 b)) 96).fst))).fst, c1 := (f1 (List.take 48 (List.drop 0 (f0 (List.take b.length (List.drop 0 b)) 96).fst))).fst }, y := (f2 (f3 (f4 (f4 { c0 := (f1 (List.take ((f0 (List.take b.length (List.drop 0 b)) 96).fst.length - 48) (List.drop 48 (f0 (List.take b.length (List.drop 0 b)) 96).fst))).fst, c1 := (f1 (List.take 48 (List.drop 0 (f0 (List.take b.length (List.drop 0 b)) 96).fst))).fst } { c0 := (f1 (List.take ((f0 (List.take b.length (List.drop 0 b)) 96).fst.length - 48) (List.drop 48 (f0 (List.take b.length (List.drop 0 b)) 96).fst))).fst, c1 := (f1 (List.take 48 (List.drop 0 (f0 (List.take b.length (List.drop 0 b)) 96).fst))).fst }) { c0 := (f1 (List.take ((f0 (List.take b.length (List.drop 0 b)) 96).fst.length - 48) (List.drop 48 (f0 (List.take b.length (List.drop 0 b)) 96).fst))).fst, c1 := (f1 (List.take 48 (List.drop 0 (f0 (List.take b.length (List.drop 0 b)) 96).fst))).fst }) f5)).fst, inf := false }, 0), .t)))))))
                        (.br ((f0 (List.take b.length (List.drop 0 b)) 96).snd.snd.fst)
                          (.br (!(f7 { x := { c0 := (f1 (List.take ((f0 (List.take b.length (List.drop 0 b)) 96).fst.length - 48) (List.drop 48 (f0 (List.take b.length (List.drop 0 b)) 96).fst))).fst, c1 := (f1 (List.take 48 (List.drop 0 (f0 (List.take b.length (List.drop 0 b)) 96).fst))).fst }, y := f6 (f2 (f3 (f4 (f4 { c0 := (f1 (List.take ((f0 (List.take b.length (List.drop 0 b)) 96).fst.length - 48) (List.drop 48 (f0 (List.take b.length (List.drop 0 b)) 96).fst))).fst, c1 := (f1 (List.take 48 (List.drop 0 (f0 (List.take b.length (List.drop 0 b)) 96).fst))).fst } { c0 := (f1 (List.take ((f0 (List.take b.length (List.drop 0 b)) 96).fst.length - 48) (List.drop 48 (f0 (List.take b.length (List.drop 0 b)) 96).fst))).fst, c1 := (f1 (List.take 48 (List.drop 0 (f0 (List.take b.length (List.drop 0 b)) 96).fst))).fst }) { c0 := (f1 (List.take ((f0 (List.take b.length (List.drop 0 b)) 96).fst.length - 48) (List.drop 48 (f0 (List.take b.length (List.drop 0 b)) 96).fst))).fst, c1 := (f1 (List.take 48 (List.drop 0 (f0 (List.take b.length (List.drop 0 b)) 96).fst))).fst }) f5)).fst, inf := false }))
                            (.leaf (some ((({ x := { c0 := { l0 := UInt64.ofNat 0, l1 := UInt64.ofNat 0, l2 := UInt64.ofNat 0, l3 := UInt64.ofNat 0, l4 := UInt64.ofNat 0, l5 := UInt64.ofNat 0 }, c1 := { l0 := UInt64.ofNat 0, l1 := UInt64.ofNat 0, l2 := UInt64.ofNat 0, l3 := UInt64.ofNat 0, l4 := UInt64.ofNat 0, l5 := UInt64.ofNat 0 } }, y := { c0 := { l0 := UInt64.ofNat 0, l1 := UInt64.ofNat 0, l2 := UInt64.ofNat 0, l3 := UInt64.ofNat 0, l4 := UInt64.ofNat 0, l5 := UInt64.ofNat 0 }, c1 := { l0 := UInt64.ofNat 0, l1 := UInt64.ofNat 0, l2 := UInt64.ofNat 0, l3 := UInt64.ofNat 0, l4 := UInt64.ofNat 0, l5 := UInt64.ofNat 0 } }, inf := false }, 6), .t))))
                            (.leaf (some ((({ x := { c0 := (f1 (List.take ((f0 (List.take b.length (List.drop 0 b)) 96).fst.length - 48) (List.drop 48 (f0 (List.take b.length (List.drop 0 b)) 96).fst))).fst, c1 := (f1 (List.take 48 (List.drop 0 (f0 (List.take b.length (List.drop 0 b)) 96).fst))).fst }, y := f6 (f2 (f3 (f4 (f4 { c0 := (f1 (List.take ((f0 (List.take b.length (List.drop 0 b)) 96).fst.length - 48) (List.drop 48 (f0 (List.take b.length (List.drop 0 b)) 96).fst))).fst, c1 := (f1 (List.take 48 (List.drop 0 (f0 (List.take b.length (List.drop 0 b)) 96).fst))).fst } { c0 := (f1 (List.take ((f0 (List.take b.length (List.drop 0 b)) 96).fst.length - 48) (List.drop 48 (f0 (List.take b.length (List.drop 0 b)) 96).fst))).fst, c1 := (f1 (List.take 48 (List.drop 0 (f0 (List.take b.length (List.drop 0 b)) 96).fst))).fst }) { c0 := (f1 (List.take ((f0 (List.take b.length (List.drop 0 b)) 96).fst.length - 48) (List.drop 48 (f0 (List.take b.length (List.drop 0 b)) 96).fst))).fst, c1 := (f1 (List.take 48 (List.drop 0 (f0 (List.take b.length (List.drop 0 b)) 96).fst))).fst }) f5)).fst, inf := false }, 0), .t)))))
                          (.br (!(f7 { x := { c0 := (f1 (List.take ((f0 (List.take b.length (List.drop 0 b)) 96).fst.length - 48) (List.drop 48 (f0 (List.take b.length (List.drop 0 b)) 96).fst))).fst, c1 := (f1 (List.take 48 (List.drop 0 (f0 (List.take b.length (List.drop 0 b)) 96).fst))).fst }, y := (f2 (f3 (f4 (f4 { c0 := (f1 (List.take ((f0 (List.take b.length (List.drop 0 b)) 96).fst.length - 48) (List.drop 48 (f0 (List.take b.length (List.drop 0 b)) 96).fst))).fst, c1 := (f1 (List.take 48 (List.drop 0 (f0 (List.take b.length (List.drop 0 b)) 96).fst))).fst } { c0 := (f1 (List.take ((f0 (List.take b.length (List.drop 0 b)) 96).fst.length - 48) (List.drop 48 (f0 (List.take b.length (List.drop 0 b)) 96).fst))).fst, c1 := (f1 (List.take 48 (List.drop 0 (f0 (List.take b.length (List.drop 0 b)) 96).fst))).fst }) { c0 := (f1 (List.take ((f0 (List.take b.length (List.drop 0 b)) 96).fst.length - 48) (List.drop 48 (f0 (List.take b.length (List.drop 0 b)) 96).fst))).fst, c1 := (f1 (List.take 48 (List.drop 0 (f0 (List.take b.length (List.drop 0 b)) 96).fst))).fst }) f5)).fst, inf := false }))
                            (.leaf (some ((({ x := { c0 := { l0 := UInt64.ofNat 0, l1 := UInt64.ofNat 0, l2 := UInt64.ofNat 0, l3 := UInt64.ofNat 0, l4 := UInt64.ofNat 0, l5 := UInt64.ofNat 0 }, c1 := { l0 := UInt64.ofNat 0, l1 := UInt64.ofNat 0, l2 := UInt64.ofNat 0, l3 := UInt64.ofNat 0, l4 := UInt64.ofNat 0, l5 := UInt64.ofNat 0 } }, y := { c0 := { l0 := UInt64.ofNat 0, l1 := UInt64.ofNat 0, l2 := UInt64.ofNat 0, l3 := UInt64.ofNat 0, l4 := UInt64.ofNat 0, l5 := UInt64.ofNat 0 }, c1 := { l0 := UInt64.ofNat 0, l1 := UInt64.ofNat 0, l2 := UInt64.ofNat 0, l3 := UInt64.ofNat 0, l4 := UInt64.ofNat 0, l5 := UInt64.ofNat 0 } }, inf := false }, 6), .t))))
                            (.leaf (some ((({ x := { c0 := (f1 (List.take ((f0 (List.take b.length (List.drop 0 b)) 96).fst.length - 48) (List.drop 48 (f0 (List.take b.length (List.drop 0 b)) 96).fst))).fst, c1 := (f1 (List.take 48 (List.drop 0 (f0 (List.take b.length (List.drop 0 b)) 96).fst))).fst }, y := (f2 (f3 (f4 (f4 { c0 := (f1 (List.take ((f0 (List.take b.length (List.drop 0 b)) 96).fst.length - 48) (List.drop 48 (f0 (List.take b.length (List.drop 0 b)) 96).fst))).fst, c1 := (f1 (List.take 48 (List.drop 0 (f0 (List.take b.length (List.drop 0 b)) 96).fst))).fst } { c0 := (f1 (List.take ((f0 (List.take b.length (List.drop 0 b)) 96).fst.length - 48) (List.drop 48 (f0 (List.take b.length (List.drop 0 b)) 96).fst))).fst, c1 := (f1 (List.take 48 (List.drop 0 (f0 (List.take b.length (List.drop 0 b)) 96).fst))).fst }) { c0 := (f1 (List.take ((f0 (List.take b.length (List.drop 0 b)) 96).fst.length - 48) (List.drop 48 (f0 (List.take b.length (List.drop 0 b)) 96).fst))).fst, c1 := (f1 (List.take 48 (List.drop 0 (f0 (List.take b.length (List.drop 0 b)) 96).fst))).fst }) f5)).fst, inf := false }, 0), .t)))))))))))
              (.br ((f1 (List.take 48 (List.drop 0 (f0 (List.take b.length (List.drop 0 b)) 96).fst))).snd != 0)
                (.leaf (some ((({ x := { c0 := { l0 := UInt64.ofNat 0, l1 := UInt64.ofNat 0, l2 := UInt64.ofNat 0, l3 := UInt64.ofNat 0, l4 := UInt64.ofNat 0, l5 := UInt64.ofNat 0 }, c1 := { l0 := UInt64.ofNat 0, l1 := UInt64.ofNat 0, l2 := UInt64.ofNat 0, l3 := UInt64.ofNat 0, l4 := UInt64.ofNat 0, l5 := UInt64.ofNat 0 } }, y := { c0 := { l0 := UInt64.ofNat 0, l1 := UInt64.ofNat 0, l2 := UInt64.ofNat 0, l3 := UInt64.ofNat 0, l4 := UInt64.ofNat 0, l5 := UInt64.ofNat 0 }, c1 := { l0 := UInt64.ofNat 0, l1 := UInt64.ofNat 0, l2 := UInt64.ofNat 0, l3 := UInt64.ofNat 0, l4 := UInt64.ofNat 0, l5 := UInt64.ofNat 0 } }, inf := false }, (f1 (List.take 48 (List.drop 0 (f0 (List.take b.length (List.drop 0 b)) 96).fst))).snd), .t))))
                (.br (!((f2 (f3 (f4 (f4 { c0 := { l0 := UInt64.ofNat 0, l1 := UInt64.ofNat 0, l2 := UInt64.ofNat 0, l3 := UInt64.ofNat 0, l4 := UInt64.ofNat 0, l5 := UInt64.ofNat 0 }, c1 := (f1 (List.take 48 (List.drop 0 (f0 (List.take b.length (List.drop 0 b)) 96).fst))).fst } { c0 := { l0 := UInt64.ofNat 0, l1 := UInt64.ofNat 0, l2 := UInt64.ofNat 0, l3 := UInt64.ofNat 0, l4 := UInt64.ofNat 0, l5 := UInt64.ofNat 0 }, c1 := (f1 (List.take 48 (List.drop 0 (f0 (List.take b.length (List.drop 0 b)) 96).fst))).fst }) { c0 := { l0 := UInt64.ofNat 0, l1 := UInt64.ofNat 0, l2 := UInt64.ofNat 0, l3 := UInt64.ofNat 0, l4 := UInt64.ofNat 0, l5 := UInt64.ofNat 0 }, c1 := (f1 (List.take 48 (List.drop 0 (f0 (List.take b.length (List.drop 0 b)) 96).fst))).fst }) f5)).snd))
                  (.leaf (some ((({ x := { c0 := { l0 := UInt64.ofNat 0, l1 := UInt64.ofNat 0, l2 := UInt64.ofNat 0, l3 := UInt64.ofNat 0, l4 := UInt64.ofNat 0, l5 := UInt64.ofNat 0 }, c1 := { l0 := UInt64.ofNat 0, l1 := UInt64.ofNat 0, l2 := UInt64.ofNat 0, l3 := UInt64.ofNat 0, l4 := UInt64.ofNat 0, l5 := UInt64.ofNat 0 } }, y := { c0 := { l0 := UInt64.ofNat 0, l1 := UInt64.ofNat 0, l2 := UInt64.ofNat 0, l3 := UInt64.ofNat 0, l4 := UInt64.ofNat 0, l5 := UInt64.ofNat 0 }, c1 := { l0 := UInt64.ofNat 0, l1 := UInt64.ofNat 0, l2 := UInt64.ofNat 0, l3 := UInt64.ofNat 0, l4 := UInt64.ofNat 0, l5 := UInt64.ofNat 0 } }, inf := false }, 5), .t))))
                  (.br (fp2Eq ((f2 (f3 (f4 (f4 { c0 := { l0 := UInt64.ofNat 0, l1 := UInt64.ofNat 0, l2 := UInt64.ofNat 0, l3 := UInt64.ofNat 0, l4 := UInt64.ofNat 0, l5 := UInt64.ofNat 0 }, c1 := (f1 (List.take 48 (List.drop 0 (f0 (List.take b.length (List.drop 0 b)) 96).fst))).fst } { c0 := { l0 := UInt64.ofNat 0, l1 := UInt64.ofNat 0, l2 := UInt64.ofNat 0, l3 := UInt64.ofNat 0, l4 := UInt64.ofNat 0, l5 := UInt64.ofNat 0 }, c1 := (f1 (List.take 48 (List.drop 0 (f0 (List.take b.length (List.drop 0 b)) 96).fst))).fst }) { c0 := { l0 := UInt64.ofNat 0, l1 := UInt64.ofNat 0, l2 := UInt64.ofNat 0, l3 := UInt64.ofNat 0, l4 := UInt64.ofNat 0, l5 := UInt64.ofNat 0 }, c1 := (f1 (List.take 48 (List.drop 0 (f0 (List.take b.length (List.drop 0 b)) 96).fst))).fst }) f5)).fst) ({ c0 := { l0 := UInt64.ofNat 0, l1 := UInt64.ofNat 0, l2 := UInt64.ofNat 0, l3 := UInt64.ofNat 0, l4 := UInt64.ofNat 0, l5 := UInt64.ofNat 0 }, c1 := { l0 := UInt64.ofNat 0, l1 := UInt64.ofNat 0, l2 := UInt64.ofNat 0, l3 := UInt64.ofNat 0, l4 := UInt64.ofNat 0, l5 := UInt64.ofNat 0 } }))
                    (.br ((f0 (List.take b.length (List.drop 0 b)) 96).snd.snd.fst)
                      (.leaf (some ((({ x := { c0 := { l0 := UInt64.ofNat 0, l1 := UInt64.ofNat 0, l2 := UInt64.ofNat 0, l3 := UInt64.ofNat 0, l4 := UInt64.ofNat 0, l5 := UInt64.ofNat 0 }, c1 := { l0 := UInt64.ofNat 0, l1 := UInt64.ofNat 0, l2 := UInt64.ofNat 0, l3 := UInt64.ofNat 0, l4 := UInt64.ofNat 0, l5 := UInt64.ofNat 0 } }, y := { c0 := { l0 := UInt64.ofNat 0, l1 := UInt64.ofNat 0, l2 := UInt64.ofNat 0, l3 := UInt64.ofNat 0, l4 := UInt64.ofNat 0, l5 := UInt64.ofNat 0 }, c1 := { l0 := UInt64.ofNat 0, l1 := UInt64.ofNat 0, l2 := UInt64.ofNat 0, l3 := UInt64.ofNat 0, l4 := UInt64.ofNat 0, l5 := UInt64.ofNat 0 } }, inf := false }, 3), .t))))
                      (.br ((f0 (List.take b.length (List.drop 0 b)) 96).snd.snd.fst)
                        (.br (!(f7 { x := { c0 := { l0 := UInt64.ofNat 0, l1 := UInt64.ofNat 0, l2 := UInt64.ofNat 0, l3 := UInt64.ofNat 0, l4 := UInt64.ofNat 0, l5 := UInt64.ofNat 0 }, c1 := (f1 (List.take 48 (List.drop 0 (f0 (List.take b.length (List.drop 0 b)) 96).fst))).fst }, y := f6 (f2 (f3 (f4 (f4 { c0 := { l0 := UInt64.ofNat 0, l1 := UInt64.ofNat 0, l2 := UInt64.ofNat 0, l3 := UInt64.ofNat 0, l4 := UInt64.ofNat 0, l5 := UInt64.ofNat 0 }, c1 := (f1 (List.take 48 (List.drop 0 (f0 (List.take b.length (List.drop 0 b)) 96).fst))).fst } { c0 := { l0 := UInt64.ofNat 0, l1 := UInt64.ofNat 0, l2 := UInt64.ofNat 0, l3 := UInt64.ofNat 0, l4 := UInt64.ofNat 0, l5 := UInt64.ofNat 0 }, c1 := (f1 (List.take 48 (List.drop 0 (f0 (List.take b.length (List.drop 0 b)) 96).fst))).fst }) { c0 := { l0 := UInt64.ofNat 0, l1 := UInt64.ofNat 0, l2 := UInt64.ofNat 0, l3 := UInt64.ofNat 0, l4 := UInt64.ofNat 0, l5 := UInt64.ofNat 0 }, c1 := (f1 (List.take 48 (List.drop 0 (f0 (List.take b.length (List.drop 0 b)) 96).fst))).fst }) f5)).fst, inf := false }))
                          (.leaf (some ((({ x := { c0 := { l0 := UInt64.ofNat 0, l1 := UInt64.ofNat 0, l2 := UInt64.ofNat 0, l3 := UInt64.ofNat 0, l4 := UInt64.ofNat 0, l5 := UInt64.ofNat 0 }, c1 := { l0 := UInt64.ofNat 0, l1 := UInt64.ofNat 0, l2 := UInt64.ofNat 0, l3 := UInt64.ofNat 0, l4 := UInt64.ofNat 0, l5 := UInt64.ofNat 0 } }, y := { c0 := { l0 := UInt64.ofNat 0, l1 := UInt64.ofNat 0, l2 := UInt64.ofNat 0, l3 := UInt64.ofNat 0, l4 := UInt64.ofNat 0, l5 := UInt64.ofNat 0 }, c1 := { l0 := UInt64.ofNat 0, l1 := UInt64.ofNat 0, l2 := UInt64.ofNat 0, l3 := UInt64.ofNat 0, l4 := UInt64.ofNat 0, l5 := UInt64.ofNat 0 } }, inf := false }, 6), .t))))
                          (.leaf (some ((({ x := { c0 := { l0 := UInt64.ofNat 0, l1 := UInt64.ofNat 0, l2 := UInt64.ofNat 0, l3 := UInt64.ofNat 0, l4 := UInt64.ofNat 0, l5 := UInt64.ofNat 0 }, c1 := (f1 (List.take 48 (List.drop 0 (f0 (List.take b.length (List.drop 0 b)) 96).fst))).fst }, y := f6 (f2 (f3 (f4 (f4 { c0 := { l0 := UInt64.ofNat 0, l1 := UInt64.ofNat 0, l2 := UInt64.ofNat 0, l3 := UInt64.ofNat 0, l4 := UInt64.ofNat 0, l5 := UInt64.ofNat 0 }, c1 := (f1 (List.take 48 (List.drop 0 (f0 (List.take b.length (List.drop 0 b)) 96).fst))).fst } { c0 := { l0 := UInt64.ofNat 0, l1 := UInt64.ofNat 0, l2 := UInt64.ofNat 0, l3 := UInt64.ofNat 0, l4 := UInt64.ofNat 0, l5 := UInt64.ofNat 0 }, c1 := (f1 (List.take 48 (List.drop 0 (f0 (List.take b.length (List.drop 0 b)) 96).fst))).fst }) { c0 := { l0 := UInt64.ofNat 0, l1 := UInt64.ofNat 0, l2 := UInt64.ofNat 0, l3 := UInt64.ofNat 0, l4 := UInt64.ofNat 0, l5 := UInt64.ofNat 0 }, c1 := (f1 (List.take 48 (List.drop 0 (f0 (List.take b.length (List.drop 0 b)) 96).fst))).fst }) f5)).fst, inf := false }, 0), .t)))))
                        (.br (!(f7 { x := { c0 := { l0 := UInt64.ofNat 0, l1 := UInt64.ofNat 0, l2 := UInt64.ofNat 0, l3 := UInt64.ofNat 0, l4 := UInt64.ofNat 0, l5 := UInt64.ofNat 0 }, c1 := (f1 (List.take 48 (List.drop 0 (f0 (List.take b.length (List.drop 0 b)) 96).fst))).fst }, y := (f2 (f3 (f4 (f4 { c0 := { l0 := UInt64.ofNat 0, l1 := UInt64.ofNat 0, l2 := UInt64.ofNat 0, l3 := UInt64.ofNat 0, l4 := UInt64.ofNat 0, l5 := UInt64.ofNat 0 }, c1 := (f1 (List.take 48 (List.drop 0 (f0 (List.take b.length (List.drop 0 b)) 96).fst))).fst } { c0 := { l0 := UInt64.ofNat 0, l1 := UInt64.ofNat 0, l2 := UInt64.ofNat 0, l3 := UInt64.ofNat 0, l4 := UInt64.ofNat 0, l5 := UInt64.ofNat 0 }, c1 := (f1 (List.take 48 (List.drop 0 (f0 (List.take b.length (List.drop 0 b)) 96).fst))).fst }) { c0 := { l0 := UInt64.ofNat 0, l1 := UInt64.ofNat 0, l2 := UInt64.ofNat 0, l3 := UInt64.ofNat 0, l4 := UInt64.ofNat 0, l5 := UInt64.ofNat 0 }, c1 := (f1 (List.take 48 (List.drop 0 (f0 (List.take b.length (List.drop 0 b)) 96).fst))).fst }) f5)).fst, inf := false }))
                          (.leaf (some ((({ x := { c0 := { l0 := UInt64.ofNat 0, l1 := UInt64.ofNat 0, l2 := UInt64.ofNat 0, l3 := UInt64.ofNat 0, l4 := UInt64.ofNat 0, l5 := UInt64.ofNat 0 }, c1 := { l0 := UInt64.ofNat 0, l1 := UInt64.ofNat 0, l2 := UInt64.ofNat 0, l3 := UInt64.ofNat 0, l4 := UInt64.ofNat 0, l5 := UInt64.ofNat 0 } }, y := { c0 := { l0 := UInt64.ofNat 0, l1 := UInt64.ofNat 0, l2 := UInt64.ofNat 0, l3 := UInt64.ofNat 0, l4 := UInt64.ofNat 0, l5 := UInt64.ofNat 0 }, c1 := { l0 := UInt64.ofNat 0, l1 := UInt64.ofNat 0, l2 := UInt64.ofNat 0, l3 := UInt64.ofNat 0, l4 := UInt64.ofNat 0, l5 := UInt64.ofNat 0 } }, inf := false }, 6), .t))))
                          (.leaf (some ((({ x := { c0 := { l0 := UInt64.ofNat 0, l1 := UInt64.ofNat 0, l2 := UInt64.ofNat 0, l3 := UInt64.ofNat 0, l4 := UInt64.ofNat 0, l5 := UInt64.ofNat 0 }, c1 := (f1 (List.take 48 (List.drop 0 (f0 (List.take b.length (List.drop 0 b)) 96).fst))).fst }, y := (f2 (f3 (f4 (f4 { c0 := { l0 := UInt64.ofNat 0, l1 := UInt64.ofNat 0, l2 := UInt64.ofNat 0, l3 := UInt64.ofNat 0, l4 := UInt64.ofNat 0, l5 := UInt64.ofNat 0 }, c1 := (f1 (List.take 48 (List.drop 0 (f0 (List.take b.length (List.drop 0 b)) 96).fst))).fst } { c0 := { l0 := UInt64.ofNat 0, l1 := UInt64.ofNat 0, l2 := UInt64.ofNat 0, l3 := UInt64.ofNat 0, l4 := UInt64.ofNat 0, l5 := UInt64.ofNat 0 }, c1 := (f1 (List.take 48 (List.drop 0 (f0 (List.take b.length (List.drop 0 b)) 96).fst))).fst }) { c0 := { l0 := UInt64.ofNat 0, l1 := UInt64.ofNat 0, l2 := UInt64.ofNat 0, l3 := UInt64.ofNat 0, l4 := UInt64.ofNat 0, l5 := UInt64.ofNat 0 }, c1 := (f1 (List.take 48 (List.drop 0 (f0 (List.take b.length (List.drop 0 b)) 96).fst))).fst }) f5)).fst, inf := false }, 0), .t)))))))
                    (.br ((f0 (List.take b.length (List.drop 0 b)) 96).snd.snd.fst)
                      (.br (!(f7 { x := { c0 := { l0 := UInt64.ofNat 0, l1 := UInt64.ofNat 0, l2 := UInt64.ofNat 0, l3 := UInt64.ofNat 0, l4 := UInt64.ofNat 0, l5 := UInt64.ofNat 0 }, c1 := (f1 (List.take 48 (List.drop 0 (f0 (List.take b.length (List.drop 0 b)) 96).fst))).fst }, y := f6 (f2 (f3 (f4 (f4 { c0 := { l0 := UInt64.ofNat 0, l1 := UInt64.ofNat 0, l2 := UInt64.ofNat 0, l3 := UInt64.ofNat 0, l4 := UInt64.ofNat 0, l5 := UInt64.ofNat 0 }, c1 := (f1 (List.take 48 (List.drop 0 (f0 (List.take b.length (List.drop 0 b)) 96).fst))).fst } { c0 := { l0 := UInt64.ofNat 0, l1 := UInt64.ofNat 0, l2 := UInt64.ofNat 0, l3 := UInt64.ofNat 0, l4 := UInt64.ofNat 0, l5 := UInt64.ofNat 0 }, c1 := (f1 (List.take 48 (List.drop 0 (f0 (List.take b.length (List.drop 0 b)) 96).fst))).fst }) { c0 := { l0 := UInt64.ofNat 0, l1 := UInt64.ofNat 0, l2 := UInt64.ofNat 0, l3 := UInt64.ofNat 0, l4 := UInt64.ofNat 0, l5 := UInt64.ofNat 0 }, c1 := (f1 (List.take 48 (List.drop 0 (f0 (List.take b.length (List.drop 0 b)) 96).fst))).fst }) f5)).fst, inf := false }))
                        (.leaf (some ((({ x := { c0 := { l0 := UInt64.ofNat 0, l1 := UInt64.ofNat 0, l2 := UInt64.ofNat 0, l3 := UInt64.ofNat 0, l4 := UInt64.ofNat 0, l5 := UInt64.ofNat 0 }, c1 := { l0 := UInt64.ofNat 0, l1 := UInt64.ofNat 0, l2 := UInt64.ofNat 0, l3 := UInt64.ofNat 0, l4 := UInt64.ofNat 0, l5 := UInt64.ofNat 0 } }, y := { c0 := { l0 := UInt64.ofNat 0, l1 := UInt64.ofNat 0, l2 := UInt64.ofNat 0, l3 := UInt64.ofNat 0, l4 := UInt64.ofNat 0, l5 := UInt64.ofNat 0 }, c1 := { l0 := UInt64.ofNat 0, l1 := UInt64.ofNat 0, l2 := UInt64.ofNat 0, l3 := UInt64.ofNat 0, l4 := UInt64.ofNat 0, l5 := UInt64.ofNat 0 } }, inf := false }, 6), .t))))
                        (.leaf (some ((({ x := { c0 := { l0 := UInt64.ofNat 0, l1 := UInt64.ofNat 0, l2 := UInt64.ofNat 0, l3 := UInt64.ofNat 0, l4 := UInt64.ofNat 0, l5 := UInt64.ofNat 0 }, c1 := (f1 (List.take 48 (List.drop 0 (f0 (List.take b.length (List.drop 0 b)) 96).fst))).fst }, y := f6 (f2 (f3 (f4 (f4 { c0 := { l0 := UInt64.ofNat 0, l1 := UInt64.ofNat 0, l2 := UInt64.ofNat 0, l3 := UInt64.ofNat 0, l4 := UInt64.ofNat 0, l5 := UInt64.ofNat 0 }, c1 := (f1 (List.take 48 (List.drop 0 (f0 (List.take b.length (List.drop 0 b)) 96).fst))).fst } { c0 := { l0 := UInt64.ofNat 0, l1 := UInt64.ofNat 0, l2 := UInt64.ofNat 0, l3 := UInt64.ofNat 0, l4 := UInt64.ofNat 0, l5 := UInt64.ofNat 0 }, c1 := (f1 (List.take 48 (List.drop 0 (f0 (List.take b.length (List.drop 0 b)) 96).fst))).fst }) { c0 := { l0 := UInt64.ofNat 0, l1 := UInt64.ofNat 0, l2 := UInt64.ofNat 0, l3 := UInt64.ofNat 0, l4 := UInt64.ofNat 0, l5 := UInt64.ofNat 0 }, c1 := (f1 (List.take 48 (List.drop 0 (f0 (List.take b.length (List.drop 0 b)) 96).fst))).fst }) f5)).fst, inf := false }, 0), .t)))))
                      (.br (!(f7 { x := { c0 := { l0 := UInt64.ofNat 0, l1 := UInt64.ofNat 0, l2 := UInt64.ofNat 0, l3 := UInt64.ofNat 0, l4 := UInt64.ofNat 0, l5 := UInt64.ofNat 0 }, c1 := (f1 (List.take 48 (List.drop 0 (f0 (List.take b.length (List.drop 0 b)) 96).fst))).fst }, y := (f2 (f3 (f4 (f4 { c0 := { l0 := UInt64.ofNat 0, l1 := UInt64.ofNat 0, l2 := UInt64.ofNat 0, l3 := UInt64.ofNat 0, l4 := UInt64.ofNat 0, l5 := UInt64.ofNat 0 }, c1 := (f1 (List.take 48 (List.drop 0 (f0 (List.take b.length (List.drop 0 b)) 96).fst))).fst } { c0 := { l0 := UInt64.ofNat 0, l1 := UInt64.ofNat 0, l2 := UInt64.ofNat 0, l3 := UInt64.ofNat 0, l4 := UInt64.ofNat 0, l5 := UInt64.ofNat 0 }, c1 := (f1 (List.take 48 (List.drop 0 (f0 (List.take b.length (List.drop 0 b)) 96).fst))).fst }) { c0 := { l0 := UInt64.ofNat 0, l1 := UInt64.ofNat 0, l2 := UInt64.ofNat 0, l3 := UInt64.ofNat 0, l4 := UInt64.ofNat 0, l5 := UInt64.ofNat 0 }, c1 := (f1 (List.take 48 (List.drop 0 (f0 (List.take b.length (List.drop 0 b)) 96).fst))).fst }) f5)).fst, inf := false }))
                        (.leaf (some ((({ x := { c0 := { l0 := UInt64.ofNat 0, l1 := UInt64.ofNat 0, l2 := UInt64.ofNat 0, l3 := UInt64.ofNat 0, l4 := UInt64.ofNat 0, l5 := UInt64.ofNat 0 }, c1 := { l0 := UInt64.ofNat 0, l1 := UInt64.ofNat 0, l2 := UInt64.ofNat 0, l3 := UInt64.ofNat 0, l4 := UInt64.ofNat 0, l5 := UInt64.ofNat 0 } }, y := { c0 := { l0 := UInt64.ofNat 0, l1 := UInt64.ofNat 0, l2 := UInt64.ofNat 0, l3 := UInt64.ofNat 0, l4 := UInt64.ofNat 0, l5 := UInt64.ofNat 0 }, c1 := { l0 := UInt64.ofNat 0, l1 := UInt64.ofNat 0, l2 := UInt64.ofNat 0, l3 := UInt64.ofNat 0, l4 := UInt64.ofNat 0, l5 := UInt64.ofNat 0 } }, inf := false }, 6), .t))))
                        (.leaf (some ((({ x := { c0 := { l0 := UInt64.ofNat 0, l1 := UInt64.ofNat 0, l2 := UInt64.ofNat 0, l3 := UInt64.ofNat 0, l4 := UInt64.ofNat 0, l5 := UInt64.ofNat 0 }, c1 := (f1 (List.take 48 (List.drop 0 (f0 (List.take b.length (List.drop 0 b)) 96).fst))).fst }, y := (f2 (f3 (f4 (f4 { c0 := { l0 := UInt64.ofNat 0, l1 := UInt64.ofNat 0, l2 := UInt64.ofNat 0, l3 := UInt64.ofNat 0, l4 := UInt64.ofNat 0, l5 := UInt64.ofNat 0 }, c1 := (f1 (List.take 48 (List.drop 0 (f0 (List.take b.length (List.drop 0 b)) 96).fst))).fst } { c0 := { l0 := UInt64.ofNat 0, l1 := UInt64.ofNat 0, l2 := UInt64.ofNat 0, l3 := UInt64.ofNat 0, l4 := UInt64.ofNat 0, l5 := UInt64.ofNat 0 }, c1 := (f1 (List.take 48 (List.drop 0 (f0 (List.take b.length (List.drop 0 b)) 96).fst))).fst }) { c0 := { l0 := UInt64.ofNat 0, l1 := UInt64.ofNat 0, l2 := UInt64.ofNat 0, l3 := UInt64.ofNat 0, l4 := UInt64.ofNat 0, l5 := UInt64.ofNat 0 }, c1 := (f1 (List.take 48 (List.drop 0 (f0 (List.take b.length (List.drop 0 b)) 96).fst))).fst }) f5)).fst, inf := false }, 0), .t)))))))))))))))
theorem rtake2F_run (f0 : List UInt8 → Int → List UInt8 × Bool × Bool × Int) (f1 : List UInt8 → Fp × Int) (f2 : Fp2 → Fp2 × Bool) (f3 : Fp2 → Fp2 → Fp2) (f4 : Fp2 → Fp2 → Fp2) (f5 : Fp2) (f6 : Fp2 → Fp2) (f7 : Pg2 → Bool) (b : List UInt8) : endT (Ens [(98, K2 aBs aN oB4.res f0), (99, Kftake f1), (77, K1 (kRow Fp2).arg ((kRow Fp2).rs2 kBool).res f2), (78, K2 (kRow Fp2).arg (kRow Fp2).arg (kRow Fp2).rs.res f3), (79, K2 (kRow Fp2).arg (kRow Fp2).arg (kRow Fp2).rs.res f4), (82, K0 (kRow Fp2).rs.res f5), (105, K1 (kRow Fp2).arg (kRow Fp2).rs.res f6), (106, K1 (kRow Pg2).arg kBool.rs.res f7)] [98]) ((kRow Pg2).rs2 kInt).out 300 Tryz.f47 (flat (codeOf Tryz.f47)) (startSt Tryz.f47 [iBs.av 0 b] [inHE eU8 b]) = rtake2F_T f0 f1 f2 f3 f4 f5 f6 f7 b := by kernel_rfl
def rtake2F (b : List UInt8) : Pg2 × Int := (rtake2F_T headF rftakeF sqrt2R add2R mul2R b2R neg2R in2R b).outD (pg20, 0)
theorem rtake2F_ok' (h : ∀ (b : List UInt8), iBs.fact b → (rtake2F_T headF rftakeF sqrt2R add2R mul2R b2R neg2R in2R b).full = true ∧ (rtake2F_T headF rftakeF sqrt2R add2R mul2R b2R neg2R in2R b).okAll) : CallOk Tryz.prog 47 (K1 aBs ((kRow Pg2).rs2 kInt).out.res rtake2F) :=
  Go.Proofs.YtbbnabednkopdaaGreat.G1 (E := Ens [(98, K2 aBs aN oB4.res headF), (99, Kftake rftakeF), (77, K1 (kRow Fp2).arg ((kRow Fp2).rs2 kBool).res sqrt2R), (78, K2 (kRow Fp2).arg (kRow Fp2).arg (kRow Fp2).rs.res add2R), (79, K2 (kRow Fp2).arg (kRow Fp2).arg (kRow Fp2).rs.res mul2R), (82, K0 (kRow Fp2).rs.res b2R), (105, K1 (kRow Fp2).arg (kRow Fp2).rs.res neg2R), (106, K1 (kRow Pg2).arg kBool.rs.res in2R)] [98]) Tryz.func47 (c := codeOf Tryz.f47) (by kernel_rfl) (bodied Tryz.func47 (by kernel_rfl) (by kernel_rfl)) iBs ((kRow Pg2).rs2 kInt).out rtake2F fun b hb => DoesL.outs (Ens_ok (.cons head_ok (.cons rftake_ok (.cons sqrt2R_ok (.cons add2R_ok (.cons mul2R_ok (.cons b2R_ok (.cons neg2R_ok (.cons in2R_ok .nil))))))))) 300 (pg20, 0) (rtake2F_run headF rftakeF sqrt2R add2R mul2R b2R neg2R in2R b) (h b hb).1 (h b hb).2
end Go.Proofs.YtbbnabednkopdaaGreat

set_option linter.unusedSimpArgs false
set_option linter.unusedVariables false
namespace Go.Proofs.YtbbnabednkopdaaGreat
open Go.RowKit
abbrev okF (f : List UInt8 → Int → List UInt8 × Bool × Bool × Int) (b : List UInt8) (n : Int) : Prop := (f b n).1.length ≤ b.length ∧ ((f b n).2.2.2 = 0 → (f b n).2.1 = false → ((f b n).1.length : Int) = n)
theorem int2 : ¬ ((2 : Int) = 0) := by decide
theorem int3 : ¬ ((3 : Int) = 0) := by decide
theorem int8 : ¬ ((8 : Int) = 0) := by decide
theorem bareG_ok (c1 c2 c3 c4 c5 c6 : Bool) (l : List UInt8) {m : Nat} {n : Int} (hl : l.length ≤ m) (h : c1 = false → c2 = false → (l.length : Int) = n) : (bareG c1 c2 c3 c4 c5 c6 l).1.length ≤ m ∧ ((bareG c1 c2 c3 c4 c5 c6 l).2.2.2 = 0 → (bareG c1 c2 c3 c4 c5 c6 l).2.1 = false → ((bareG c1 c2 c3 c4 c5 c6 l).1.length : Int) = n) := by
  cases c1 <;> cases c2 <;> cases c3 <;> cases c4 <;> cases c5 <;> cases c6 <;> first
    | exact ⟨hl, fun _ _ => h rfl rfl⟩
    | exact ⟨hl, fun _ h => Bool.noConfusion h⟩
    | exact ⟨Nat.zero_le _, fun h => absurd h int2⟩
    | exact ⟨Nat.zero_le _, fun h => absurd h int3⟩
    | exact ⟨Nat.zero_le _, fun h => absurd h int8⟩
theorem headG_ok (c1 c2 c3 c4 c5 c6 c7 : Bool) (l : List UInt8) {m : Nat} {n : Int} (hl : l.length ≤ m) (h : c1 = false → c2 = false → (l.length : Int) = n) : (headG c1 c2 c3 c4 c5 c6 c7 l).1.length ≤ m ∧ ((headG c1 c2 c3 c4 c5 c6 c7 l).2.2.2 = 0 → (headG c1 c2 c3 c4 c5 c6 c7 l).2.1 = false → ((headG c1 c2 c3 c4 c5 c6 c7 l).1.length : Int) = n) := by
  cases c1 <;> cases c2 <;> cases c3 <;> cases c4 <;> cases c5 <;> cases c6 <;> cases c7 <;> first
    | exact ⟨hl, fun _ _ => h rfl rfl⟩
    | exact ⟨Nat.zero_le _, fun _ h => Bool.noConfusion h⟩
    | exact ⟨Nat.zero_le _, fun h => absurd h int2⟩
    | exact ⟨Nat.zero_le _, fun h => absurd h int3⟩
    | exact ⟨Nat.zero_le _, fun h => absurd h int8⟩
theorem bare_okF (b : List UInt8) (n : Int) : okF bareF b n :=
  bareG_ok _ _ _ _ _ _ (bareL b) (Nat.le_of_eq (bareL_len b)) fun h1 h2 => by
    have h1 := of_decide_eq_false h1
    have h2 := of_decide_eq_false h2
    have hl := bareL_len b
    omega
theorem head_okF (b : List UInt8) (n : Int) : okF headF b n :=
  headG_ok _ _ _ _ _ _ _ (headL b) (Nat.le_of_eq (headL_len b)) fun h1 h2 => by
    have h1 := of_decide_eq_false h1
    have h2 := of_decide_eq_false h2
    have hl := headL_len b
    omega
theorem int_zero {n : Int} (h : (n != 0) = false) : n = 0 := by simpa using h
theorem size48 : sizeB 48 := ⟨by decide, by decide⟩
theorem size96 : sizeB 96 := ⟨by decide, by decide⟩
theorem takes_b {l : List UInt8} {s n : Nat} (h : n < 16777216) : littleB (List.take n (List.drop s l)) := by show (List.take n (List.drop s l)).length < _; rw [List.length_take]; omega
theorem map_b (l : List UInt8) : (List.map EK.u8.cell l).length = l.length := u8_map l
theorem take1_all {f0 : List UInt8 → Int → List UInt8 × Bool × Bool × Int} {f1 f2 f3 f4 f5 f6 f7} (b : List UInt8) (hF : okF f0 b 48) (hb : b.length < 16777216) : (take1F_T f0 f1 f2 f3 f4 f5 f6 f7 b).full = true ∧ (take1F_T f0 f1 f2 f3 f4 f5 f6 f7 b).okAll := by
  refine ⟨rfl, ?_⟩
  obtain ⟨h1, h2⟩ := hF
  unfold take1F_T
  simp only [Tree.okAll, whole8, Pr.holds, implies_true, and_true, true_and]
  have h3 := Nat.lt_of_le_of_lt h1 hb
  refine ⟨⟨⟨?_, hb⟩, size48⟩, fun _ _ => ⟨?_, h3⟩⟩ <;> omega
theorem rtake1_all {f0 : List UInt8 → Int → List UInt8 × Bool × Bool × Int} {f1 f2 f3 f4 f5 f6 f7} (b : List UInt8) (hF : okF f0 b 48) (hb : b.length < 16777216) : (rtake1F_T f0 f1 f2 f3 f4 f5 f6 f7 b).full = true ∧ (rtake1F_T f0 f1 f2 f3 f4 f5 f6 f7 b).okAll := by
  refine ⟨rfl, ?_⟩
  obtain ⟨h1, h2⟩ := hF
  unfold rtake1F_T
  simp only [Tree.okAll, whole8, Pr.holds, implies_true, and_true, true_and]
  have h3 := Nat.lt_of_le_of_lt h1 hb
  refine ⟨⟨⟨?_, hb⟩, size48⟩, fun _ _ => ⟨?_, h3⟩⟩ <;> omega
theorem take2_all {f0 : List UInt8 → Int → List UInt8 × Bool × Bool × Int} {f1 f2 f3 f4 f5 f6} (b : List UInt8) (hF : okF f0 b 96) (hb : b.length < 16777216) : (take2F_T f0 f1 f2 f3 f4 f5 f6 b).full = true ∧ (take2F_T f0 f1 f2 f3 f4 f5 f6 b).okAll := by
  refine ⟨rfl, ?_⟩
  obtain ⟨h1, h2⟩ := hF
  unfold take2F_T
  simp only [Tree.okAll, whole8, Pr.holds, implies_true, and_true, true_and]
  refine ⟨⟨⟨by omega, hb⟩, size96⟩, fun a1 a2 => ?_⟩
  have hl : (f0 b 96).1.length = 96 := by have := h2 (int_zero a1) a2; omega
  have hm := map_b (f0 b 96).1
  refine ⟨?_, ⟨?_, takes_b (by omega)⟩, fun _ => ⟨?_, ?_, takes_b (by omega)⟩⟩ <;> omega
theorem rtake2_all {f0 : List UInt8 → Int → List UInt8 × Bool × Bool × Int} {f1 f2 f3 f4 f5 f6 f7} (b : List UInt8) (hF : okF f0 b 96) (hb : b.length < 16777216) : (rtake2F_T f0 f1 f2 f3 f4 f5 f6 f7 b).full = true ∧ (rtake2F_T f0 f1 f2 f3 f4 f5 f6 f7 b).okAll := by
  refine ⟨rfl, ?_⟩
  obtain ⟨h1, h2⟩ := hF
  unfold rtake2F_T
  simp only [Tree.okAll, whole8, Pr.holds, implies_true, and_true, true_and]
  refine ⟨⟨⟨by omega, hb⟩, size96⟩, fun a1 a2 => ?_⟩
  have hl : (f0 b 96).1.length = 96 := by have := h2 (int_zero a1) a2; omega
  have hm := map_b (f0 b 96).1
  refine ⟨?_, ⟨?_, takes_b (by omega)⟩, fun _ => ⟨?_, ?_, takes_b (by omega)⟩⟩ <;> omega
theorem take1F_ok : CallOk Tryz.prog 44 (K1 aBs ((kRow Pg1).rs2 kInt).out.res take1F) := take1F_ok' fun b hb => take1_all b (bare_okF b 48) hb.2
theorem take2F_ok : CallOk Tryz.prog 46 (K1 aBs ((kRow Pg2).rs2 kInt).out.res take2F) := take2F_ok' fun b hb => take2_all b (bare_okF b 96) hb.2
theorem rtake1F_ok : CallOk Tryz.prog 45 (K1 aBs ((kRow Pg1).rs2 kInt).out.res rtake1F) := rtake1F_ok' fun b hb => rtake1_all b (head_okF b 48) hb.2
theorem rtake2F_ok : CallOk Tryz.prog 47 (K1 aBs ((kRow Pg2).rs2 kInt).out.res rtake2F) := rtake2F_ok' fun b hb => rtake2_all b (head_okF b 96) hb.2
end Go.Proofs.YtbbnabednkopdaaGreat

set_option linter.unusedSimpArgs false
set_option linter.unusedVariables false
namespace Go.Proofs.YtbbnabednkopdaaGreat
open Go.RowKit
theorem outD_br {ρ : Type} (c : Bool) (x y : Tree (Option (ρ × Pr))) (d : ρ) : (Tree.br c x y).outD d = cond c (x.outD d) (y.outD d) := by cases c <;> rfl
theorem outD_vc {ρ : Type} (p : Prop) (x : Tree (Option (ρ × Pr))) (d : ρ) : (Tree.vc p x).outD d = x.outD d := rfl
theorem outD_leaf {ρ : Type} (y : ρ) (p : Pr) (d : ρ) : (Tree.leaf (some (y, p))).outD d = y := rfl
def hdB (l : List UInt8) (t : UInt8) : List UInt8 := l.set 0 (l.getD 0 0 + t)
theorem hdB_len (l : List UInt8) (t : UInt8) : (hdB l t).length = l.length := List.length_set ..
def inf1B : List UInt8 := hdB (List.replicate 48 0) 192
def inf2B : List UInt8 := hdB (List.replicate 96 0) 192
theorem put1F_val (a : Pg1) : put1F a = cond a.inf inf1B (markF (fputF a.x) (false, greatF a.y, ())) := by
  unfold put1F put1_T
  simp only [outD_br, outD_vc, outD_leaf]
  rw [show ∀ x, List.take (fputF a.x).length (markF (fputF a.x) x) = markF (fputF a.x) x from fun x => List.take_of_length_le (Nat.le_of_eq (markF_len _ _))]
  rfl
theorem put2F_val (a : Pg2) : put2F a = cond a.inf inf2B (markF (fputF a.x.c1 ++ fputF a.x.c0) (false, greatF2 a.y, ())) := by
  unfold put2F put2_T
  simp only [outD_br, outD_vc, outD_leaf, whole8]
  rw [← List.length_append, show ∀ x, List.take (fputF a.x.c1 ++ fputF a.x.c0).length (markF (fputF a.x.c1 ++ fputF a.x.c0) x) = markF (fputF a.x.c1 ++ fputF a.x.c0) x from fun x => List.take_of_length_le (Nat.le_of_eq (markF_len _ _))]
  rfl
theorem put1F_len (a : Pg1) : (put1F a).length = 48 := by
  rw [put1F_val]
  cases a.inf
  · exact (markF_len _ _).trans (fput_len' _)
  · rfl
theorem put2F_len (a : Pg2) : (put2F a).length = 96 := by
  rw [put2F_val]
  cases a.inf
  · exact (markF_len _ _).trans (by rw [List.length_append, fput_len', fput_len'])
  · rfl
def begun10_T (f0 : Pg1) (f1 : Pg1 → List UInt8) (f2 : List UInt8 → Pg1 × Int) (f3 : Pg2) (f4 : Pg2 → List UInt8) (f5 : List UInt8 → Pg2 × Int) : Tree (Option ((Bool) × Pr)) :=
  (.vc ((0 + (f1 f0).length ≤ (f1 f0).length ∧ (f1 f0).length < 1125899906842624 ∧ 0 = 0 ∧ 1 = 1) ∧ littleB (List.take (f1 f0).length (List.drop 0 (f1 f0))))
    (.vc ((0 + (f4 f3).length ≤ (f4 f3).length ∧ (f4 f3).length < 1125899906842624 ∧ 0 = 0 ∧ 1 = 1) ∧ littleB (List.take (f4 f3).length (List.drop 0 (f4 f3))))
      (.br ((f2 (List.take (f1 f0).length (List.drop 0 (f1 f0)))).snd == 0)
        (.br (pg1Eq ((f2 (List.take (f1 f0).length (List.drop 0 (f1 f0)))).fst) (f0))
          (.br ((f5 (List.take (f4 f3).length (List.drop 0 (f4 f3)))).snd == 0)
            (.leaf (some (((f5 (List.take (f4 f3).length (List.drop 0 (f4 f3)))).fst.x.c0.l0 == f3.x.c0.l0 && ((f5 (List.take (f4 f3).length (List.drop 0 (f4 f3)))).fst.x.c0.l1 == f3.x.c0.l1 && ((f5 (List.take (f4 f3).length (List.drop 0 (f4 f3)))).fst.x.c0.l2 == f3.x.c0.l2 && ((f5 (List.take (f4 f3).length (List.drop 0 (f4 f3)))).fst.x.c0.l3 == f3.x.c0.l3 && ((f5 (List.take (f4 f3).length (List.drop 0 (f4 f3)))).fst.x.c0.l4 == f3.x.c0.l4 && ((f5 (List.take (f4 f3).length (List.drop 0 (f4 f3)))).fst.x.c0.l5 == f3.x.c0.l5 && true))))) && ((f5 (List.take (f4 f3).length (List.drop 0 (f4 f3)))).fst.x.c1.l0 == f3.x.c1.l0 && ((f5 (List.take (f4 f3).length (List.drop 0 (f4 f3)))).fst.x.c1.l1 == f3.x.c1.l1 && ((f5 (List.take (f4 f3).length (List.drop 0 (f4 f3)))).fst.x.c1.l2 == f3.x.c1.l2 && ((f5 (List.take (f4 f3).length (List.drop 0 (f4 f3)))).fst.x.c1.l3 == f3.x.c1.l3 && ((f5 (List.take (f4 f3).length (List.drop 0 (f4 f3)))).fst.x.c1.l4 == f3.x.c1.l4 && ((f5 (List.take (f4 f3).length (List.drop 0 (f4 f3)))).fst.x.c1.l5 == f3.x.c1.l5 && true))))) && true) && ((f5 (List.take (f4 f3).length (List.drop 0 (f4 f3)))).fst.y.c0.l0 == f3.y.c0.l0 && ((f5 (List.take (f4 f3).length (List.drop 0 (f4 f3)))).fst.y.c0.l1 == f3.y.c0.l1 && ((f5 (List.take (f4 f3).length (List.drop 0 (f4 f3)))).fst.y.c0.l2 == f3.y.c0.l2 && ((f5 (List.take (f4 f3).length (List.drop 0 (f4 f3)))).fst.y.c0.l3 == f3.y.c0.l3 && ((f5 (List.take (f4 f3).length (List.drop 0 (f4 f3)))).fst.y.c0.l4 == f3.y.c0.l4 && ((f5 (List.take (f4 f3).length (List.drop 0 (f4 f3)))).fst.y.c0.l5 == f3.y.c0.l5 && true))))) && ((f5 (List.take (f4 f3).length (List.drop 0 (f4 f3)))).fst.y.c1.l0 == f3.y.c1.l0 && ((f5 (List.take (f4 f3).length (List.drop 0 (f4 f3)))).fst.y.c1.l1 == f3.y.c1.l1 && ((f5 (List.take (f4 f3).length (List.drop 0 (f4 f3)))).fst.y.c1.l2 == f3.y.c1.l2 && ((f5 (List.take (f4 f3).length (List.drop 0 (f4 f3)))).fst.y.c1.l3 == f3.y.c1.l3 && ((f5 (List.take (f4 f3).length (List.drop 0 (f4 f3)))).fst.y.c1.l4 == f3.y.c1.l4 && ((f5 (List.take (f4 f3).length (List.drop 0 (f4 f3)))).fst.y.c1.l5 == f3.y.c1.l5 && true))))) && true) && ((f5 (List.take (f4 f3).length (List.drop 0 (f4 f3)))).fst.inf == f3.inf && true)), .t))))
            (.leaf (some ((false, .t)))))
          (.leaf (some ((false, .t)))))
        (.leaf (some ((false, .t)))))))
theorem begun10_run (f0 : Pg1) (f1 : Pg1 → List UInt8) (f2 : List UInt8 → Pg1 × Int) (f3 : Pg2) (f4 : Pg2 → List UInt8) (f5 : List UInt8 → Pg2 × Int) : endT (Ens [(23, K0 (kRow Pg1).rs.res f0), (40, K1 kg1.arg rB f1), (44, K1 aBs ((kRow Pg1).rs2 kInt).out.res f2), (20, K0 (kRow Pg2).rs.res f3), (42, K1 kg2.arg rB f4), (46, K1 aBs ((kRow Pg2).rs2 kInt).out.res f5)] [40, 42]) kBool.rs.out 300 Tryz.f34 (flat (codeOf Tryz.f34)) (startSt Tryz.f34 [] []) = begun10_T f0 f1 f2 f3 f4 f5 := by kernel_rfl
def begun10  : Bool := (begun10_T gen1R put1F take1F gen2R put2F take2F ).outD false
theorem begun10_ok' (h : (begun10_T gen1R put1F take1F gen2R put2F take2F).full = true ∧ (begun10_T gen1R put1F take1F gen2R put2F take2F).okAll) : CallOk Tryz.prog 34 (K0  kBool.rs.out.res begun10) :=
  Go.Proofs.YtbbnabednkopdaaGreat.G0 (E := Ens [(23, K0 (kRow Pg1).rs.res gen1R), (40, K1 kg1.arg rB put1F), (44, K1 aBs ((kRow Pg1).rs2 kInt).out.res take1F), (20, K0 (kRow Pg2).rs.res gen2R), (42, K1 kg2.arg rB put2F), (46, K1 aBs ((kRow Pg2).rs2 kInt).out.res take2F)] [40, 42]) Tryz.func34 (c := codeOf Tryz.f34) (by kernel_rfl) (bodied Tryz.func34 (by kernel_rfl) (by kernel_rfl)) kBool.rs.out begun10 (DoesL.outs (Ens_ok (.cons gen1R_ok (.cons put1_ok (.cons take1F_ok (.cons gen2R_ok (.cons put2_ok (.cons take2F_ok .nil))))))) 300 false (begun10_run gen1R put1F take1F gen2R put2F take2F ) h.1 h.2)
theorem begun10_ok : CallOk Tryz.prog 34 (K0 kBool.rs.res begun10) := begun10_ok' ⟨rfl, by
  unfold begun10_T
  simp only [Tree.okAll, whole8, Pr.holds, implies_true, and_true, true_and, put1F_len, put2F_len, littleB]
  decide⟩
end Go.Proofs.YtbbnabednkopdaaGreat

set_option linter.unusedSimpArgs false
set_option linter.unusedVariables false
namespace Go.Proofs.YtbbnabednkopdaaGreat
open Go.RowKit
def bFp1 : Fp := ⟨4, 0, 0, 0, 0, 0⟩
theorem bFp1_v : bFp1.ok ∧ bFp1.v = Crv.b := ⟨ofF_ok 4, by
  show (ofF 4).v = 4
  rw [v_of]
  exact V1.ext (by decide +kernel)⟩
theorem onG1_inf {f0 : Fp → Bool} {f1 : Fp → Fp → Fp} {f2 : Fp → Fp} {p : Pg1} (h : p.inf = true) : onG1_G f0 f1 f2 p = pg1Eq p infG1 := by unfold onG1_G; rw [h]
theorem onG1_aff {f0 : Fp → Bool} {f1 : Fp → Fp → Fp} {f2 : Fp → Fp} {p : Pg1} (h : p.inf = false) : onG1_G f0 f1 f2 p = (f0 p.x && f0 p.y && fpEq (f1 p.y p.y) (f2 p.x)) := by
  unfold onG1_G
  rw [h]
  cases f0 p.x <;> cases f0 p.y <;> rfl
theorem liftG1_inf {f0 : Fp → Fp} {p : Pg1} (h : p.inf = true) : liftG1_G f0 p = zeroSp := by unfold liftG1_G; rw [h]
theorem liftG1_aff {f0 : Fp → Fp} {p : Pg1} (h : p.inf = false) : liftG1_G f0 p = ⟨f0 p.x, f0 p.y, f0 oneFp⟩ := by unfold liftG1_G; rw [h]
theorem negG1_inf {f0 : Fp → Fp} {p : Pg1} (h : p.inf = true) : negG1_G f0 p = p := by unfold negG1_G; rw [h]
theorem negG1_aff {f0 : Fp → Fp} {p : Pg1} (h : p.inf = false) : negG1_G f0 p = ⟨p.x, f0 p.y, false⟩ := by unfold negG1_G; rw [h]
theorem zeroG1_eq (a : Fp) : zeroG1 a = fpEq a zeroFp := by unfold zeroG1 zeroG1_G; rfl
def Pg1.pt (p : Pg1) : Pt V1 := match p.inf with
  | true => .inf
  | false => .aff p.x.v p.y.v
def Pg1.ok (p : Pg1) : Prop := p = infG1 ∨ (p.inf = false ∧ p.x.ok ∧ p.y.ok)
def Pg1.good (p : Pg1) : Prop := p.ok ∧ p.pt.on
theorem pt1_inf {p : Pg1} (h : p.inf = true) : p.pt = .inf := by unfold Pg1.pt; rw [h]
theorem pt1_aff {p : Pg1} (h : p.inf = false) : p.pt = .aff p.x.v p.y.v := by unfold Pg1.pt; rw [h]
theorem good_inf1 : infG1.good := ⟨.inl rfl, trivial⟩
theorem ok_inf1 {p : Pg1} (h : p.ok) (hi : p.inf = true) : p = infG1 := by
  rcases h with h | ⟨h, _⟩
  · exact h
  · rw [hi] at h; cases h
theorem ok_aff1 {p : Pg1} (h : p.ok) (hi : p.inf = false) : p.x.ok ∧ p.y.ok := by
  rcases h with h | ⟨_, h⟩
  · rw [h] at hi; cases hi
  · exact h
theorem good1_mk {x y : Fp} {u v : V1} (hx : x.ok) (hy : y.ok) (ex : x.v = u) (ey : y.v = v) (h : (Pt.aff u v).on) : (⟨x, y, false⟩ : Pg1).good ∧ (⟨x, y, false⟩ : Pg1).pt = .aff u v := by
  subst ex ey
  exact ⟨⟨.inr ⟨rfl, hx, hy⟩, h⟩, rfl⟩
def m1 (a : Fp) : V1 := ri * a.v
theorem m1_add {a b : Fp} (ha : a.ok) (hb : b.ok) : m1 (addF a b) = m1 a + m1 b := by unfold m1; rw [v_add1 ha hb]; exact CR.dist _ _ _
theorem m1_sub {a b : Fp} (ha : a.ok) (hb : b.ok) : m1 (subF a b) = m1 a - m1 b := by unfold m1; rw [v_sub1 ha hb]; grind
theorem m1_half {a b : Fp} (ha : a.ok) (hb : b.ok) : m1 (halfF a b) = m1 a * m1 b := by unfold m1; rw [v_half1 ha hb]; grind
theorem m1_whole {a : Fp} (ha : a.ok) : m1 (wholeF a) = a.v := by
  unfold m1
  rw [v_whole1 ha]
  have := rv_ri
  grind
theorem ri_ne1 : ri ≠ 0 := fun e => one_ne' (K := V1) (by rw [← rv_ri, e]; exact CR.mul_zero _)
theorem m1_zero {a : Fp} (ha : a.ok) : zeroG1 a = true ↔ m1 a = 0 := by
  rw [zeroG1_eq, eq_v1 ha zero_ok1, v_zero1]
  unfold m1
  constructor
  · intro h; rw [h]; exact CR.mul_zero _
  · intro h; exact (mul_eq_zero' h).resolve_left ri_ne1
theorem m1_nonzero {a : Fp} (ha : a.ok) : zeroG1 a = false ↔ m1 a ≠ 0 := by rw [← Bool.not_eq_true, m1_zero ha]
def rel1 (s : Sp1) (p : Pt V1) : Prop := (s.x.ok ∧ s.y.ok ∧ s.z.ok) ∧ Jc (m1 s.x) (m1 s.y) (m1 s.z) p
theorem rel1_mk {x y z : Fp} {p : Pt V1} (hx : x.ok) (hy : y.ok) (hz : z.ok) (h : Jc (m1 x) (m1 y) (m1 z) p) : rel1 ⟨x, y, z⟩ p := ⟨⟨hx, hy, hz⟩, h⟩
theorem rel1_inf : rel1 zeroSp .inf := ⟨⟨zero_ok1, zero_ok1, zero_ok1⟩, by
  show m1 zeroFp = 0
  unfold m1
  rw [v_zero1]
  exact CR.mul_zero _⟩
theorem lift1_rel {p : Pg1} (h : p.good) : rel1 (liftG1 p) p.pt := by
  unfold liftG1
  cases hi : p.inf with
  | true => rw [liftG1_inf hi, pt1_inf hi]; exact rel1_inf
  | false =>
    obtain ⟨hx, hy⟩ := ok_aff1 h.1 hi
    rw [liftG1_aff hi, pt1_aff hi]
    refine rel1_mk (whole_ok1 hx) (whole_ok1 hy) (whole_ok1 one_ok1) ?_
    rw [m1_whole hx, m1_whole hy, m1_whole one_ok1, v_one1]
    exact ⟨one_ne', by grind, by grind⟩
theorem jx_of (x y : V1) : ((x * x + x * x) + x * x) * ((x * x + x * x) + x * x) - ((x * (y * y) + x * (y * y) + (x * (y * y) + x * (y * y))) + (x * (y * y) + x * (y * y) + (x * (y * y) + x * (y * y)))) = jx x y := by unfold jx; grind
theorem jy_of (x y : V1) : ((x * x + x * x) + x * x) * ((x * (y * y) + x * (y * y) + (x * (y * y) + x * (y * y))) - jx x y) - ((y * y * (y * y) + y * y * (y * y) + (y * y * (y * y) + y * y * (y * y))) + (y * y * (y * y) + y * y * (y * y) + (y * y * (y * y) + y * y * (y * y)))) = jy x y := by unfold jy; generalize jx x y = k; grind
theorem jz_of (y z : V1) : y * z + y * z = jz y z := by unfold jz; grind
theorem twice1_rel {s : Sp1} {p : Pt V1} (hp : p.on) (h : rel1 s p) : rel1 (twiceG1 s) (p.add p) := by
  obtain ⟨⟨hx, hy, hz⟩, hj⟩ := h
  have ha := half_ok1 hx hx
  have hb := half_ok1 hy hy
  have hc := half_ok1 hb hb
  have hd := half_ok1 hx hb
  have hd2 := add_ok1 hd hd
  have hd4 := add_ok1 hd2 hd2
  have he := add_ok1 (add_ok1 ha ha) ha
  have hee := half_ok1 he he
  have hd8 := add_ok1 hd4 hd4
  have hX := sub_ok1 hee hd8
  have hc2 := add_ok1 hc hc
  have hc4 := add_ok1 hc2 hc2
  have hc8 := add_ok1 hc4 hc4
  have hyz := half_ok1 hy hz
  have hs := sub_ok1 hd4 hX
  have hes := half_ok1 he hs
  have hj' := twice_all hp hj
  have e1 := m1_sub hee hd8
  rw [m1_half he he, m1_add hd4 hd4, m1_add hd2 hd2, m1_add hd hd, m1_half hx hb, m1_half hy hy, m1_add (add_ok1 ha ha) ha, m1_add ha ha, m1_half hx hx, jx_of] at e1
  have e2 := m1_sub hes hc8
  rw [m1_half he hs, m1_sub hd4 hX, e1, m1_add hc4 hc4, m1_add hc2 hc2, m1_add hc hc, m1_half hb hb, m1_add hd2 hd2, m1_add hd hd, m1_half hx hb, m1_half hy hy, m1_add (add_ok1 ha ha) ha, m1_add ha ha, m1_half hx hx, jy_of] at e2
  have e3 := m1_add hyz hyz
  rw [m1_half hy hz, jz_of] at e3
  unfold twiceG1 twiceG1_G
  refine rel1_mk hX (sub_ok1 hes hc8) (add_ok1 hyz hyz) ?_
  rw [e1, e2, e3]
  exact hj'
section
variable {f0 : Fp → Bool} {f1 f2 f4 : Fp → Fp → Fp} {f3 : Sp1 → Sp1} {s t : Sp1}
theorem plusG1_l (h : f0 s.z = true) : plusG1_G f0 f1 f2 f3 f4 s t = t := by unfold plusG1_G; rw [h]
theorem plusG1_r (h : f0 s.z = false) (h2 : f0 t.z = true) : plusG1_G f0 f1 f2 f3 f4 s t = s := by unfold plusG1_G; rw [h, h2]
theorem plusG1_tw (h : f0 s.z = false) (h2 : f0 t.z = false) (h3 : f0 (f2 (f1 t.x (f1 s.z s.z)) (f1 s.x (f1 t.z t.z))) = true) (h4 : f0 (f2 (f1 t.y (f1 (f1 s.z s.z) s.z)) (f1 s.y (f1 (f1 t.z t.z) t.z))) = true) : plusG1_G f0 f1 f2 f3 f4 s t = f3 s := by
  unfold plusG1_G
  rw [h, h2, h3, h4]
theorem plusG1_no (h : f0 s.z = false) (h2 : f0 t.z = false) (h3 : f0 (f2 (f1 t.x (f1 s.z s.z)) (f1 s.x (f1 t.z t.z))) = true) (h4 : f0 (f2 (f1 t.y (f1 (f1 s.z s.z) s.z)) (f1 s.y (f1 (f1 t.z t.z) t.z))) = false) : plusG1_G f0 f1 f2 f3 f4 s t = zeroSp := by
  unfold plusG1_G
  rw [h, h2, h3, h4]
theorem plusG1_all (h : f0 s.z = false) (h2 : f0 t.z = false) (h3 : f0 (f2 (f1 t.x (f1 s.z s.z)) (f1 s.x (f1 t.z t.z))) = false) : plusG1_G f0 f1 f2 f3 f4 s t = ⟨(f2 (f2 (f1 (f2 (f1 t.y (f1 (f1 s.z s.z) s.z)) (f1 s.y (f1 (f1 t.z t.z) t.z))) (f2 (f1 t.y (f1 (f1 s.z s.z) s.z)) (f1 s.y (f1 (f1 t.z t.z) t.z)))) (f1 (f1 (f2 (f1 t.x (f1 s.z s.z)) (f1 s.x (f1 t.z t.z))) (f2 (f1 t.x (f1 s.z s.z)) (f1 s.x (f1 t.z t.z)))) (f2 (f1 t.x (f1 s.z s.z)) (f1 s.x (f1 t.z t.z))))) (f4 (f1 (f1 s.x (f1 t.z t.z)) (f1 (f2 (f1 t.x (f1 s.z s.z)) (f1 s.x (f1 t.z t.z))) (f2 (f1 t.x (f1 s.z s.z)) (f1 s.x (f1 t.z t.z))))) (f1 (f1 s.x (f1 t.z t.z)) (f1 (f2 (f1 t.x (f1 s.z s.z)) (f1 s.x (f1 t.z t.z))) (f2 (f1 t.x (f1 s.z s.z)) (f1 s.x (f1 t.z t.z))))))), (f2 (f1 (f2 (f1 t.y (f1 (f1 s.z s.z) s.z)) (f1 s.y (f1 (f1 t.z t.z) t.z))) (f2 (f1 (f1 s.x (f1 t.z t.z)) (f1 (f2 (f1 t.x (f1 s.z s.z)) (f1 s.x (f1 t.z t.z))) (f2 (f1 t.x (f1 s.z s.z)) (f1 s.x (f1 t.z t.z))))) (f2 (f2 (f1 (f2 (f1 t.y (f1 (f1 s.z s.z) s.z)) (f1 s.y (f1 (f1 t.z t.z) t.z))) (f2 (f1 t.y (f1 (f1 s.z s.z) s.z)) (f1 s.y (f1 (f1 t.z t.z) t.z)))) (f1 (f1 (f2 (f1 t.x (f1 s.z s.z)) (f1 s.x (f1 t.z t.z))) (f2 (f1 t.x (f1 s.z s.z)) (f1 s.x (f1 t.z t.z)))) (f2 (f1 t.x (f1 s.z s.z)) (f1 s.x (f1 t.z t.z))))) (f4 (f1 (f1 s.x (f1 t.z t.z)) (f1 (f2 (f1 t.x (f1 s.z s.z)) (f1 s.x (f1 t.z t.z))) (f2 (f1 t.x (f1 s.z s.z)) (f1 s.x (f1 t.z t.z))))) (f1 (f1 s.x (f1 t.z t.z)) (f1 (f2 (f1 t.x (f1 s.z s.z)) (f1 s.x (f1 t.z t.z))) (f2 (f1 t.x (f1 s.z s.z)) (f1 s.x (f1 t.z t.z))))))))) (f1 (f1 s.y (f1 (f1 t.z t.z) t.z)) (f1 (f1 (f2 (f1 t.x (f1 s.z s.z)) (f1 s.x (f1 t.z t.z))) (f2 (f1 t.x (f1 s.z s.z)) (f1 s.x (f1 t.z t.z)))) (f2 (f1 t.x (f1 s.z s.z)) (f1 s.x (f1 t.z t.z)))))), (f1 (f1 s.z t.z) (f2 (f1 t.x (f1 s.z s.z)) (f1 s.x (f1 t.z t.z))))⟩ := by
  unfold plusG1_G
  rw [h, h2, h3]
end
theorem px_of (u h r : V1) : r * r - h * h * h - (u * (h * h) + u * (h * h)) = r * r - h * h * h - 2 * (u * (h * h)) := by grind
theorem plus1_rel {s t : Sp1} {p q : Pt V1} (hp : p.on) (hq : q.on) (hs : rel1 s p) (ht : rel1 t q) : rel1 (plusG1 s t) (p.add q) := by
  have hs0 := hs
  have ht0 := ht
  obtain ⟨⟨hx, hy, hz⟩, hj⟩ := hs
  obtain ⟨⟨kx, ky, kz⟩, kj⟩ := ht
  unfold plusG1
  by_cases z1 : m1 s.z = 0
  · rw [plusG1_l ((m1_zero hz).2 z1), hj.inf_of z1, inf_add]
    exact ht0
  by_cases z2 : m1 t.z = 0
  · rw [plusG1_r ((m1_nonzero hz).2 z1) ((m1_zero kz).2 z2), kj.inf_of z2, add_inf]
    exact hs0
  have n1 := (m1_nonzero hz).2 z1
  have n2 := (m1_nonzero kz).2 z2
  have zz := half_ok1 hz hz
  have ww := half_ok1 kz kz
  have zzz := half_ok1 zz hz
  have www := half_ok1 ww kz
  have hu := half_ok1 hx ww
  have hv := half_ok1 kx zz
  have ha := half_ok1 hy www
  have hb := half_ok1 ky zzz
  have hh := sub_ok1 hv hu
  have hr := sub_ok1 hb ha
  have eh : m1 (subF (halfF t.x (halfF s.z s.z)) (halfF s.x (halfF t.z t.z))) = m1 t.x * (m1 s.z * m1 s.z) - m1 s.x * (m1 t.z * m1 t.z) := by
    rw [m1_sub hv hu, m1_half kx zz, m1_half hx ww, m1_half hz hz, m1_half kz kz]
  have er : m1 (subF (halfF t.y (halfF (halfF s.z s.z) s.z)) (halfF s.y (halfF (halfF t.z t.z) t.z))) = m1 t.y * (m1 s.z * m1 s.z * m1 s.z) - m1 s.y * (m1 t.z * m1 t.z * m1 t.z) := by
    rw [m1_sub hb ha, m1_half ky zzz, m1_half hy www, m1_half zz hz, m1_half ww kz, m1_half hz hz, m1_half kz kz]
  by_cases h0 : m1 t.x * (m1 s.z * m1 s.z) - m1 s.x * (m1 t.z * m1 t.z) = 0
  · obtain ⟨c1, c2⟩ := plus_same hp hq hj kj z1 z2 h0
    have n3 := (m1_zero hh).2 (by rw [eh]; exact h0)
    by_cases r0 : m1 t.y * (m1 s.z * m1 s.z * m1 s.z) - m1 s.y * (m1 t.z * m1 t.z * m1 t.z) = 0
    · rw [plusG1_tw n1 n2 n3 ((m1_zero hr).2 (by rw [er]; exact r0)), c1 r0]
      exact twice1_rel hp hs0
    · rw [plusG1_no n1 n2 n3 ((m1_nonzero hr).2 (by rw [er]; exact r0)), c2 r0]
      exact rel1_inf
  · rw [plusG1_all n1 n2 ((m1_nonzero hh).2 (by rw [eh]; exact h0))]
    have key := plus_all hp hq hj kj z1 z2 h0
    have h2 := half_ok1 hh hh
    have h3 := half_ok1 h2 hh
    have hw := half_ok1 hu h2
    have hrr := half_ok1 hr hr
    have hw2 := add_ok1 hw hw
    have hrh := sub_ok1 hrr h3
    have hX := sub_ok1 hrh hw2
    have hwx := sub_ok1 hw hX
    have hrw := half_ok1 hr hwx
    have hah := half_ok1 ha h3
    have hst := half_ok1 hz kz
    have eu : m1 (halfF s.x (halfF t.z t.z)) = m1 s.x * (m1 t.z * m1 t.z) := by rw [m1_half hx ww, m1_half kz kz]
    have ea : m1 (halfF s.y (halfF (halfF t.z t.z) t.z)) = m1 s.y * (m1 t.z * m1 t.z * m1 t.z) := by rw [m1_half hy www, m1_half ww kz, m1_half kz kz]
    have e1 := m1_sub hrh hw2
    rw [m1_sub hrr h3, m1_half hr hr, er, m1_half h2 hh, m1_half hh hh, eh, m1_add hw hw, m1_half hu h2, eu, m1_half hh hh, eh, px_of] at e1
    have e1' : _ = px (m1 s.x) (m1 s.y) (m1 s.z) (m1 t.x) (m1 t.y) (m1 t.z) := e1
    have e2 := m1_sub hrw hah
    rw [m1_half hr hwx, m1_sub hw hX, e1', m1_half hu h2, eu, m1_half hh hh, eh, m1_half ha h3, ea, m1_half h2 hh, m1_half hh hh, eh, er] at e2
    have e3 := m1_half hst hh
    rw [m1_half hz kz, eh] at e3
    refine rel1_mk hX (sub_ok1 hrw hah) (half_ok1 hst hh) ?_
    rw [e1', e2, e3]
    exact key
theorem neg1_pt {a : Pg1} (ha : a.good) : (negG1 a).good ∧ (negG1 a).pt = a.pt.neg := by
  unfold negG1
  cases hi : a.inf with
  | true =>
    rw [negG1_inf hi, pt1_inf hi]
    exact ⟨ha, rfl⟩
  | false =>
    obtain ⟨hx, hy⟩ := ok_aff1 ha.1 hi
    have ho := neg_on ha.2
    rw [pt1_aff hi] at ho ⊢
    rw [negG1_aff hi]
    exact good1_mk hx (neg_ok1 hy) rfl (v_neg1 hy) ho
theorem rhs1_G_eq (f0 f1 : Fp → Fp → Fp) (x : Fp) : rhsG1_G f0 f1 x = f0 (f1 (f1 x x) x) bFp1 := rfl
theorem rhs1_v {x : Fp} (hx : x.ok) : (rhsG1 x).ok ∧ (rhsG1 x).v = x.v * x.v * x.v + Crv.b := by
  have hb : bFp1.ok ∧ bFp1.v = Crv.b := bFp1_v
  have h2 := mul_ok1 hx hx
  have h3 := mul_ok1 h2 hx
  unfold rhsG1
  rw [rhs1_G_eq]
  refine ⟨add_ok1 h3 hb.1, ?_⟩
  rw [v_add1 h3 hb.1, v_mul1 h2 hx, v_mul1 hx hx, hb.2]
theorem on1_iff (p : Pg1) : onG1 p = true ↔ p.good := by
  unfold onG1
  cases hi : p.inf with
  | true =>
    rw [onG1_inf hi, pg1Eq_iff]
    constructor
    · intro h; rw [h]; exact good_inf1
    · intro h; exact ok_inf1 h.1 hi
  | false =>
    rw [onG1_aff hi, Bool.and_eq_true, Bool.and_eq_true, may1_iff, may1_iff]
    constructor
    · rintro ⟨⟨hx, hy⟩, h⟩
      obtain ⟨r1, r2⟩ := rhs1_v hx
      rw [eq_v1 (mul_ok1 hy hy) r1, v_mul1 hy hy, r2] at h
      exact ⟨.inr ⟨hi, hx, hy⟩, by rw [pt1_aff hi]; exact h⟩
    · intro h
      obtain ⟨hx, hy⟩ := ok_aff1 h.1 hi
      obtain ⟨r1, r2⟩ := rhs1_v hx
      refine ⟨⟨hx, hy⟩, ?_⟩
      rw [eq_v1 (mul_ok1 hy hy) r1, v_mul1 hy hy, r2]
      have := h.2
      rw [pt1_aff hi] at this
      exact this
end Go.Proofs.YtbbnabednkopdaaGreat

set_option linter.unusedSimpArgs false
set_option linter.unusedVariables false
namespace Go.Proofs.YtbbnabednkopdaaGreat
open Go.RowKit
def bFp2 : Fp2 := ⟨bFp1, bFp1⟩
theorem bFp2_v : bFp2.ok ∧ bFp2.v = Crv.b := ⟨Fp2.mk_ok bFp1_v.1 bFp1_v.1, Qd.ext' bFp1_v.2 bFp1_v.2⟩
theorem onG2_inf {f0 : Fp2 → Bool} {f1 : Fp2 → Fp2 → Fp2} {f2 : Fp2 → Fp2} {p : Pg2} (h : p.inf = true) : onG2_G f0 f1 f2 p = pg2Eq p infG2 := by unfold onG2_G; rw [h]
theorem onG2_aff {f0 : Fp2 → Bool} {f1 : Fp2 → Fp2 → Fp2} {f2 : Fp2 → Fp2} {p : Pg2} (h : p.inf = false) : onG2_G f0 f1 f2 p = (f0 p.x && f0 p.y && fp2Eq (f1 p.y p.y) (f2 p.x)) := by
  unfold onG2_G
  rw [h]
  cases f0 p.x <;> cases f0 p.y <;> rfl
theorem liftG2_inf {f0 : Fp2 → Fp2} {p : Pg2} (h : p.inf = true) : liftG2_G f0 p = zeroFp6 := by unfold liftG2_G; rw [h]
theorem liftG2_aff {f0 : Fp2 → Fp2} {p : Pg2} (h : p.inf = false) : liftG2_G f0 p = ⟨f0 p.x, f0 p.y, f0 oneFp2⟩ := by unfold liftG2_G; rw [h]
theorem negG2_inf {f0 : Fp2 → Fp2} {p : Pg2} (h : p.inf = true) : negG2_G f0 p = p := by unfold negG2_G; rw [h]
theorem negG2_aff {f0 : Fp2 → Fp2} {p : Pg2} (h : p.inf = false) : negG2_G f0 p = ⟨p.x, f0 p.y, false⟩ := by unfold negG2_G; rw [h]
theorem zeroG2_eq (a : Fp2) : zeroG2 a = fp2Eq a zeroFp2 := by unfold zeroG2 zeroG2_G; rfl
def Pg2.pt (p : Pg2) : Pt V2 := match p.inf with
  | true => .inf
  | false => .aff p.x.v p.y.v
def Pg2.ok (p : Pg2) : Prop := p = infG2 ∨ (p.inf = false ∧ p.x.ok ∧ p.y.ok)
def Pg2.good (p : Pg2) : Prop := p.ok ∧ p.pt.on
theorem pt2_inf {p : Pg2} (h : p.inf = true) : p.pt = .inf := by unfold Pg2.pt; rw [h]
theorem pt2_aff {p : Pg2} (h : p.inf = false) : p.pt = .aff p.x.v p.y.v := by unfold Pg2.pt; rw [h]
theorem good_inf2 : infG2.good := ⟨.inl rfl, trivial⟩
theorem ok_inf2 {p : Pg2} (h : p.ok) (hi : p.inf = true) : p = infG2 := by
  rcases h with h | ⟨h, _⟩
  · exact h
  · rw [hi] at h; cases h
theorem ok_aff2 {p : Pg2} (h : p.ok) (hi : p.inf = false) : p.x.ok ∧ p.y.ok := by
  rcases h with h | ⟨_, h⟩
  · rw [h] at hi; cases hi
  · exact h
theorem good2_mk {x y : Fp2} {u v : V2} (hx : x.ok) (hy : y.ok) (ex : x.v = u) (ey : y.v = v) (h : (Pt.aff u v).on) : (⟨x, y, false⟩ : Pg2).good ∧ (⟨x, y, false⟩ : Pg2).pt = .aff u v := by
  subst ex ey
  exact ⟨⟨.inr ⟨rfl, hx, hy⟩, h⟩, rfl⟩
def m2 (a : Fp2) : V2 := ri2 * a.v
theorem m2_add {a b : Fp2} (ha : a.ok) (hb : b.ok) : m2 (addF2 a b) = m2 a + m2 b := by unfold m2; rw [v_add2 ha hb]; exact CR.dist _ _ _
theorem m2_sub {a b : Fp2} (ha : a.ok) (hb : b.ok) : m2 (subF2 a b) = m2 a - m2 b := by unfold m2; rw [v_sub2 ha hb]; grind
theorem m2_half {a b : Fp2} (ha : a.ok) (hb : b.ok) : m2 (halfF2 a b) = m2 a * m2 b := by unfold m2; rw [v_half2 ha hb]; grind
theorem m2_whole {a : Fp2} (ha : a.ok) : m2 (wholeF2 a) = a.v := by
  unfold m2
  rw [v_whole2 ha]
  have := rv_ri2
  grind
theorem ri_ne2 : ri2 ≠ 0 := fun e => one_ne' (K := V2) (by rw [← rv_ri2, e]; exact CR.mul_zero _)
theorem m2_zero {a : Fp2} (ha : a.ok) : zeroG2 a = true ↔ m2 a = 0 := by
  rw [zeroG2_eq, fp2Eq_v ha zero_ok2, v_zero2]
  unfold m2
  constructor
  · intro h; rw [h]; exact CR.mul_zero _
  · intro h; exact (mul_eq_zero' h).resolve_left ri_ne2
theorem m2_nonzero {a : Fp2} (ha : a.ok) : zeroG2 a = false ↔ m2 a ≠ 0 := by rw [← Bool.not_eq_true, m2_zero ha]
def rel2 (s : Fp6) (p : Pt V2) : Prop := (s.c0.ok ∧ s.c1.ok ∧ s.c2.ok) ∧ Jc (m2 s.c0) (m2 s.c1) (m2 s.c2) p
theorem rel2_mk {x y z : Fp2} {p : Pt V2} (hx : x.ok) (hy : y.ok) (hz : z.ok) (h : Jc (m2 x) (m2 y) (m2 z) p) : rel2 ⟨x, y, z⟩ p := ⟨⟨hx, hy, hz⟩, h⟩
theorem rel2_inf : rel2 zeroFp6 .inf := ⟨⟨zero_ok2, zero_ok2, zero_ok2⟩, by
  show m2 zeroFp2 = 0
  unfold m2
  rw [v_zero2]
  exact CR.mul_zero _⟩
theorem lift2_rel {p : Pg2} (h : p.good) : rel2 (liftG2 p) p.pt := by
  unfold liftG2
  cases hi : p.inf with
  | true => rw [liftG2_inf hi, pt2_inf hi]; exact rel2_inf
  | false =>
    obtain ⟨hx, hy⟩ := ok_aff2 h.1 hi
    rw [liftG2_aff hi, pt2_aff hi]
    refine rel2_mk (whole_ok2 hx) (whole_ok2 hy) (whole_ok2 one_ok2) ?_
    rw [m2_whole hx, m2_whole hy, m2_whole one_ok2, v_one2]
    exact ⟨one_ne', by grind, by grind⟩
theorem jx_of2 (x y : V2) : ((x * x + x * x) + x * x) * ((x * x + x * x) + x * x) - ((x * (y * y) + x * (y * y) + (x * (y * y) + x * (y * y))) + (x * (y * y) + x * (y * y) + (x * (y * y) + x * (y * y)))) = jx x y := by unfold jx; grind
theorem jy_of2 (x y : V2) : ((x * x + x * x) + x * x) * ((x * (y * y) + x * (y * y) + (x * (y * y) + x * (y * y))) - jx x y) - ((y * y * (y * y) + y * y * (y * y) + (y * y * (y * y) + y * y * (y * y))) + (y * y * (y * y) + y * y * (y * y) + (y * y * (y * y) + y * y * (y * y)))) = jy x y := by unfold jy; generalize jx x y = k; grind
theorem jz_of2 (y z : V2) : y * z + y * z = jz y z := by unfold jz; grind
theorem twice2_rel {s : Fp6} {p : Pt V2} (hp : p.on) (h : rel2 s p) : rel2 (twiceG2 s) (p.add p) := by
  obtain ⟨⟨hx, hy, hz⟩, hj⟩ := h
  have ha := half_ok2 hx hx
  have hb := half_ok2 hy hy
  have hc := half_ok2 hb hb
  have hd := half_ok2 hx hb
  have hd2 := add_ok2 hd hd
  have hd4 := add_ok2 hd2 hd2
  have he := add_ok2 (add_ok2 ha ha) ha
  have hee := half_ok2 he he
  have hd8 := add_ok2 hd4 hd4
  have hX := sub_ok2 hee hd8
  have hc2 := add_ok2 hc hc
  have hc4 := add_ok2 hc2 hc2
  have hc8 := add_ok2 hc4 hc4
  have hyz := half_ok2 hy hz
  have hs := sub_ok2 hd4 hX
  have hes := half_ok2 he hs
  have hj' := twice_all hp hj
  have e1 := m2_sub hee hd8
  rw [m2_half he he, m2_add hd4 hd4, m2_add hd2 hd2, m2_add hd hd, m2_half hx hb, m2_half hy hy, m2_add (add_ok2 ha ha) ha, m2_add ha ha, m2_half hx hx, jx_of2] at e1
  have e2 := m2_sub hes hc8
  rw [m2_half he hs, m2_sub hd4 hX, e1, m2_add hc4 hc4, m2_add hc2 hc2, m2_add hc hc, m2_half hb hb, m2_add hd2 hd2, m2_add hd hd, m2_half hx hb, m2_half hy hy, m2_add (add_ok2 ha ha) ha, m2_add ha ha, m2_half hx hx, jy_of2] at e2
  have e3 := m2_add hyz hyz
  rw [m2_half hy hz, jz_of2] at e3
  unfold twiceG2 twiceG2_G
  refine rel2_mk hX (sub_ok2 hes hc8) (add_ok2 hyz hyz) ?_
  rw [e1, e2, e3]
  exact hj'
section
variable {f0 : Fp2 → Bool} {f1 f2 f4 : Fp2 → Fp2 → Fp2} {f3 : Fp6 → Fp6} {s t : Fp6}
theorem plusG2_l (h : f0 s.c2 = true) : plusG2_G f0 f1 f2 f3 f4 s t = t := by unfold plusG2_G; rw [h]
theorem plusG2_r (h : f0 s.c2 = false) (h2 : f0 t.c2 = true) : plusG2_G f0 f1 f2 f3 f4 s t = s := by unfold plusG2_G; rw [h, h2]
theorem plusG2_tw (h : f0 s.c2 = false) (h2 : f0 t.c2 = false) (h3 : f0 (f2 (f1 t.c0 (f1 s.c2 s.c2)) (f1 s.c0 (f1 t.c2 t.c2))) = true) (h4 : f0 (f2 (f1 t.c1 (f1 (f1 s.c2 s.c2) s.c2)) (f1 s.c1 (f1 (f1 t.c2 t.c2) t.c2))) = true) : plusG2_G f0 f1 f2 f3 f4 s t = f3 s := by
  unfold plusG2_G
  rw [h, h2, h3, h4]
theorem plusG2_no (h : f0 s.c2 = false) (h2 : f0 t.c2 = false) (h3 : f0 (f2 (f1 t.c0 (f1 s.c2 s.c2)) (f1 s.c0 (f1 t.c2 t.c2))) = true) (h4 : f0 (f2 (f1 t.c1 (f1 (f1 s.c2 s.c2) s.c2)) (f1 s.c1 (f1 (f1 t.c2 t.c2) t.c2))) = false) : plusG2_G f0 f1 f2 f3 f4 s t = zeroFp6 := by
  unfold plusG2_G
  rw [h, h2, h3, h4]
theorem plusG2_all (h : f0 s.c2 = false) (h2 : f0 t.c2 = false) (h3 : f0 (f2 (f1 t.c0 (f1 s.c2 s.c2)) (f1 s.c0 (f1 t.c2 t.c2))) = false) : plusG2_G f0 f1 f2 f3 f4 s t = ⟨(f2 (f2 (f1 (f2 (f1 t.c1 (f1 (f1 s.c2 s.c2) s.c2)) (f1 s.c1 (f1 (f1 t.c2 t.c2) t.c2))) (f2 (f1 t.c1 (f1 (f1 s.c2 s.c2) s.c2)) (f1 s.c1 (f1 (f1 t.c2 t.c2) t.c2)))) (f1 (f1 (f2 (f1 t.c0 (f1 s.c2 s.c2)) (f1 s.c0 (f1 t.c2 t.c2))) (f2 (f1 t.c0 (f1 s.c2 s.c2)) (f1 s.c0 (f1 t.c2 t.c2)))) (f2 (f1 t.c0 (f1 s.c2 s.c2)) (f1 s.c0 (f1 t.c2 t.c2))))) (f4 (f1 (f1 s.c0 (f1 t.c2 t.c2)) (f1 (f2 (f1 t.c0 (f1 s.c2 s.c2)) (f1 s.c0 (f1 t.c2 t.c2))) (f2 (f1 t.c0 (f1 s.c2 s.c2)) (f1 s.c0 (f1 t.c2 t.c2))))) (f1 (f1 s.c0 (f1 t.c2 t.c2)) (f1 (f2 (f1 t.c0 (f1 s.c2 s.c2)) (f1 s.c0 (f1 t.c2 t.c2))) (f2 (f1 t.c0 (f1 s.c2 s.c2)) (f1 s.c0 (f1 t.c2 t.c2))))))), (f2 (f1 (f2 (f1 t.c1 (f1 (f1 s.c2 s.c2) s.c2)) (f1 s.c1 (f1 (f1 t.c2 t.c2) t.c2))) (f2 (f1 (f1 s.c0 (f1 t.c2 t.c2)) (f1 (f2 (f1 t.c0 (f1 s.c2 s.c2)) (f1 s.c0 (f1 t.c2 t.c2))) (f2 (f1 t.c0 (f1 s.c2 s.c2)) (f1 s.c0 (f1 t.c2 t.c2))))) (f2 (f2 (f1 (f2 (f1 t.c1 (f1 (f1 s.c2 s.c2) s.c2)) (f1 s.c1 (f1 (f1 t.c2 t.c2) t.c2))) (f2 (f1 t.c1 (f1 (f1 s.c2 s.c2) s.c2)) (f1 s.c1 (f1 (f1 t.c2 t.c2) t.c2)))) (f1 (f1 (f2 (f1 t.c0 (f1 s.c2 s.c2)) (f1 s.c0 (f1 t.c2 t.c2))) (f2 (f1 t.c0 (f1 s.c2 s.c2)) (f1 s.c0 (f1 t.c2 t.c2)))) (f2 (f1 t.c0 (f1 s.c2 s.c2)) (f1 s.c0 (f1 t.c2 t.c2))))) (f4 (f1 (f1 s.c0 (f1 t.c2 t.c2)) (f1 (f2 (f1 t.c0 (f1 s.c2 s.c2)) (f1 s.c0 (f1 t.c2 t.c2))) (f2 (f1 t.c0 (f1 s.c2 s.c2)) (f1 s.c0 (f1 t.c2 t.c2))))) (f1 (f1 s.c0 (f1 t.c2 t.c2)) (f1 (f2 (f1 t.c0 (f1 s.c2 s.c2)) (f1 s.c0 (f1 t.c2 t.c2))) (f2 (f1 t.c0 (f1 s.c2 s.c2)) (f1 s.c0 (f1 t.c2 t.c2))))))))) (f1 (f1 s.c1 (f1 (f1 t.c2 t.c2) t.c2)) (f1 (f1 (f2 (f1 t.c0 (f1 s.c2 s.c2)) (f1 s.c0 (f1 t.c2 t.c2))) (f2 (f1 t.c0 (f1 s.c2 s.c2)) (f1 s.c0 (f1 t.c2 t.c2)))) (f2 (f1 t.c0 (f1 s.c2 s.c2)) (f1 s.c0 (f1 t.c2 t.c2)))))), (f1 (f1 s.c2 t.c2) (f2 (f1 t.c0 (f1 s.c2 s.c2)) (f1 s.c0 (f1 t.c2 t.c2))))⟩ := by
  unfold plusG2_G
  rw [h, h2, h3]
end
theorem px_of2 (u h r : V2) : r * r - h * h * h - (u * (h * h) + u * (h * h)) = r * r - h * h * h - 2 * (u * (h * h)) := by grind
theorem plus2_rel {s t : Fp6} {p q : Pt V2} (hp : p.on) (hq : q.on) (hs : rel2 s p) (ht : rel2 t q) : rel2 (plusG2 s t) (p.add q) := by
  have hs0 := hs
  have ht0 := ht
  obtain ⟨⟨hx, hy, hz⟩, hj⟩ := hs
  obtain ⟨⟨kx, ky, kz⟩, kj⟩ := ht
  unfold plusG2
  by_cases z1 : m2 s.c2 = 0
  · rw [plusG2_l ((m2_zero hz).2 z1), hj.inf_of z1, inf_add]
    exact ht0
  by_cases z2 : m2 t.c2 = 0
  · rw [plusG2_r ((m2_nonzero hz).2 z1) ((m2_zero kz).2 z2), kj.inf_of z2, add_inf]
    exact hs0
  have n1 := (m2_nonzero hz).2 z1
  have n2 := (m2_nonzero kz).2 z2
  have zz := half_ok2 hz hz
  have ww := half_ok2 kz kz
  have zzz := half_ok2 zz hz
  have www := half_ok2 ww kz
  have hu := half_ok2 hx ww
  have hv := half_ok2 kx zz
  have ha := half_ok2 hy www
  have hb := half_ok2 ky zzz
  have hh := sub_ok2 hv hu
  have hr := sub_ok2 hb ha
  have eh : m2 (subF2 (halfF2 t.c0 (halfF2 s.c2 s.c2)) (halfF2 s.c0 (halfF2 t.c2 t.c2))) = m2 t.c0 * (m2 s.c2 * m2 s.c2) - m2 s.c0 * (m2 t.c2 * m2 t.c2) := by
    rw [m2_sub hv hu, m2_half kx zz, m2_half hx ww, m2_half hz hz, m2_half kz kz]
  have er : m2 (subF2 (halfF2 t.c1 (halfF2 (halfF2 s.c2 s.c2) s.c2)) (halfF2 s.c1 (halfF2 (halfF2 t.c2 t.c2) t.c2))) = m2 t.c1 * (m2 s.c2 * m2 s.c2 * m2 s.c2) - m2 s.c1 * (m2 t.c2 * m2 t.c2 * m2 t.c2) := by
    rw [m2_sub hb ha, m2_half ky zzz, m2_half hy www, m2_half zz hz, m2_half ww kz, m2_half hz hz, m2_half kz kz]
  by_cases h0 : m2 t.c0 * (m2 s.c2 * m2 s.c2) - m2 s.c0 * (m2 t.c2 * m2 t.c2) = 0
  · obtain ⟨c1, c2⟩ := plus_same hp hq hj kj z1 z2 h0
    have n3 := (m2_zero hh).2 (by rw [eh]; exact h0)
    by_cases r0 : m2 t.c1 * (m2 s.c2 * m2 s.c2 * m2 s.c2) - m2 s.c1 * (m2 t.c2 * m2 t.c2 * m2 t.c2) = 0
    · rw [plusG2_tw n1 n2 n3 ((m2_zero hr).2 (by rw [er]; exact r0)), c1 r0]
      exact twice2_rel hp hs0
    · rw [plusG2_no n1 n2 n3 ((m2_nonzero hr).2 (by rw [er]; exact r0)), c2 r0]
      exact rel2_inf
  · rw [plusG2_all n1 n2 ((m2_nonzero hh).2 (by rw [eh]; exact h0))]
    have key := plus_all hp hq hj kj z1 z2 h0
    have h2 := half_ok2 hh hh
    have h3 := half_ok2 h2 hh
    have hw := half_ok2 hu h2
    have hrr := half_ok2 hr hr
    have hw2 := add_ok2 hw hw
    have hrh := sub_ok2 hrr h3
    have hX := sub_ok2 hrh hw2
    have hwx := sub_ok2 hw hX
    have hrw := half_ok2 hr hwx
    have hah := half_ok2 ha h3
    have hst := half_ok2 hz kz
    have eu : m2 (halfF2 s.c0 (halfF2 t.c2 t.c2)) = m2 s.c0 * (m2 t.c2 * m2 t.c2) := by rw [m2_half hx ww, m2_half kz kz]
    have ea : m2 (halfF2 s.c1 (halfF2 (halfF2 t.c2 t.c2) t.c2)) = m2 s.c1 * (m2 t.c2 * m2 t.c2 * m2 t.c2) := by rw [m2_half hy www, m2_half ww kz, m2_half kz kz]
    have e1 := m2_sub hrh hw2
    rw [m2_sub hrr h3, m2_half hr hr, er, m2_half h2 hh, m2_half hh hh, eh, m2_add hw hw, m2_half hu h2, eu, m2_half hh hh, eh, px_of2] at e1
    have e1' : _ = px (m2 s.c0) (m2 s.c1) (m2 s.c2) (m2 t.c0) (m2 t.c1) (m2 t.c2) := e1
    have e2 := m2_sub hrw hah
    rw [m2_half hr hwx, m2_sub hw hX, e1', m2_half hu h2, eu, m2_half hh hh, eh, m2_half ha h3, ea, m2_half h2 hh, m2_half hh hh, eh, er] at e2
    have e3 := m2_half hst hh
    rw [m2_half hz kz, eh] at e3
    refine rel2_mk hX (sub_ok2 hrw hah) (half_ok2 hst hh) ?_
    rw [e1', e2, e3]
    exact key
theorem neg2_pt {a : Pg2} (ha : a.good) : (negG2 a).good ∧ (negG2 a).pt = a.pt.neg := by
  unfold negG2
  cases hi : a.inf with
  | true =>
    rw [negG2_inf hi, pt2_inf hi]
    exact ⟨ha, rfl⟩
  | false =>
    obtain ⟨hx, hy⟩ := ok_aff2 ha.1 hi
    have ho := neg_on ha.2
    rw [pt2_aff hi] at ho ⊢
    rw [negG2_aff hi]
    exact good2_mk hx (neg_ok2 hy) rfl (v_neg2 hy) ho
theorem rhs2_G_eq (f0 f1 : Fp2 → Fp2 → Fp2) (x : Fp2) : rhsG2_G f0 f1 x = f0 (f1 (f1 x x) x) bFp2 := rfl
theorem rhs2_v {x : Fp2} (hx : x.ok) : (rhsG2 x).ok ∧ (rhsG2 x).v = x.v * x.v * x.v + Crv.b := by
  have hb : bFp2.ok ∧ bFp2.v = Crv.b := bFp2_v
  have h2 := mul_ok2 hx hx
  have h3 := mul_ok2 h2 hx
  unfold rhsG2
  rw [rhs2_G_eq]
  refine ⟨add_ok2 h3 hb.1, ?_⟩
  rw [v_add2 h3 hb.1, v_mul2 h2 hx, v_mul2 hx hx, hb.2]
theorem on2_iff (p : Pg2) : onG2 p = true ↔ p.good := by
  unfold onG2
  cases hi : p.inf with
  | true =>
    rw [onG2_inf hi, pg2Eq_iff]
    constructor
    · intro h; rw [h]; exact good_inf2
    · intro h; exact ok_inf2 h.1 hi
  | false =>
    rw [onG2_aff hi, Bool.and_eq_true, Bool.and_eq_true, may2_iff, may2_iff]
    constructor
    · rintro ⟨⟨hx, hy⟩, h⟩
      obtain ⟨r1, r2⟩ := rhs2_v hx
      rw [fp2Eq_v (mul_ok2 hy hy) r1, v_mul2 hy hy, r2] at h
      exact ⟨.inr ⟨hi, hx, hy⟩, by rw [pt2_aff hi]; exact h⟩
    · intro h
      obtain ⟨hx, hy⟩ := ok_aff2 h.1 hi
      obtain ⟨r1, r2⟩ := rhs2_v hx
      refine ⟨⟨hx, hy⟩, ?_⟩
      rw [fp2Eq_v (mul_ok2 hy hy) r1, v_mul2 hy hy, r2]
      have := h.2
      rw [pt2_aff hi] at this
      exact this
end Go.Proofs.YtbbnabednkopdaaGreat

set_option linter.unusedSimpArgs false
set_option linter.unusedVariables false
namespace Go.Proofs.YtbbnabednkopdaaGreat
def qN : Nat := 0x73eda753299d7d483339d80809a1d80553bda402fffe5bfeffffffff00000001
def r4N : Nat := 0x10000000000000000000000000000000000000000000000000000000000000000
def Fr.nat (a : Fr) : Nat := a.l0.toNat + W64 * (a.l1.toNat + W64 * (a.l2.toNat + W64 * (a.l3.toNat)))
theorem Fr.nat_lt (a : Fr) : a.nat < r4N := by
  have h0 := a.l0.toNat_lt
  have h1 := a.l1.toNat_lt
  have h2 := a.l2.toNat_lt
  have h3 := a.l3.toNat_lt
  unfold Fr.nat r4N W64
  omega
theorem Fr.nat_inj {a b : Fr} (h : a.nat = b.nat) : a = b := by
  have h0 := a.l0.toNat_lt
  have h1 := a.l1.toNat_lt
  have h2 := a.l2.toNat_lt
  have h3 := a.l3.toNat_lt
  have k0 := b.l0.toNat_lt
  have k1 := b.l1.toNat_lt
  have k2 := b.l2.toNat_lt
  have k3 := b.l3.toNat_lt
  unfold Fr.nat W64 at h
  have e0 : a.l0 = b.l0 := UInt64.toNat.inj (by omega)
  have e1 : a.l1 = b.l1 := UInt64.toNat.inj (by omega)
  have e2 : a.l2 = b.l2 := UInt64.toNat.inj (by omega)
  have e3 : a.l3 = b.l3 := UInt64.toNat.inj (by omega)
  cases a; cases b
  simp only [] at e0 e1 e2 e3
  subst e0 e1 e2 e3
  rfl
theorem rLimbs_nat : rLimbs.nat = qN := by decide +kernel
def L5.nat (t : L5) : Nat := t.t0.toNat + W64 * (t.t1.toNat + W64 * (t.t2.toNat + W64 * (t.t3.toNat + W64 * (t.t4.toNat))))
theorem L5.nat_low (t : L5) : t.nat = t.low.nat + r4N * t.t4.toNat := by
  unfold L5.nat L5.low Fr.nat r4N W64
  simp only []
  omega
end Go.Proofs.YtbbnabednkopdaaGreat

set_option linter.unusedSimpArgs false
set_option linter.unusedVariables false
namespace Go.Proofs.YtbbnabednkopdaaGreat
open Go.RowKit
theorem add5_G {K : Type} [Fld K] [Crv K] {f0 : Fp2 → Fp2 → Bool → Fp2} {f1 f2 : Fp2 → Fp2 → Fp2} {f3 : Fp2 → Bool → Fp2} {b : K} {small : Bool} (ok : Fp2 → Prop) (v : Fp2 → K)
    (hA : ∀ {x y}, ok x → ok y → ok (f1 x y) ∧ v (f1 x y) = v x + v y) (hS : ∀ {x y}, ok x → ok y → ok (f2 x y) ∧ v (f2 x y) = v x - v y) (hM : ∀ {x y}, ok x → ok y → ok (f0 x y small) ∧ v (f0 x y small) = v x * v y) (hB : ∀ {x}, ok x → ok (f3 x small) ∧ v (f3 x small) = 3 * b * v x)
    {s t : Fp6} (hs : ok s.c0 ∧ ok s.c1 ∧ ok s.c2) (ht : ok t.c0 ∧ ok t.c1 ∧ ok t.c2) :
    (ok (addS5_G f0 f1 f2 f3 s t small).c0 ∧ ok (addS5_G f0 f1 f2 f3 s t small).c1 ∧ ok (addS5_G f0 f1 f2 f3 s t small).c2) ∧
    v (addS5_G f0 f1 f2 f3 s t small).c0 = rx b (v s.c0) (v s.c1) (v s.c2) (v t.c0) (v t.c1) (v t.c2) ∧ v (addS5_G f0 f1 f2 f3 s t small).c1 = ry b (v s.c0) (v s.c1) (v s.c2) (v t.c0) (v t.c1) (v t.c2) ∧ v (addS5_G f0 f1 f2 f3 s t small).c2 = rz b (v s.c0) (v s.c1) (v s.c2) (v t.c0) (v t.c1) (v t.c2) := by
  obtain ⟨s0, s1, s2⟩ := hs
  obtain ⟨t0, t1, t2⟩ := ht
  have a0 := hM s0 t0
  have a1 := hM s1 t1
  have a2 := hM s2 t2
  have b3 := hM (hA s0 s1).1 (hA t0 t1).1
  have b4 := hM (hA s1 s2).1 (hA t1 t2).1
  have b5 := hM (hA s0 s2).1 (hA t0 t2).1
  have c3 := hS (hS b3.1 a0.1).1 a1.1
  have c4 := hS (hS b4.1 a1.1).1 a2.1
  have c5 := hS (hS b5.1 a0.1).1 a2.1
  have d0 := hA (hA a0.1 a0.1).1 a0.1
  have d2 := hB a2.1
  have dz := hA a1.1 d2.1
  have d1 := hS a1.1 d2.1
  have dy := hB c5.1
  have x1 := hM c3.1 d1.1
  have x2 := hM c4.1 dy.1
  have y1 := hM d1.1 dz.1
  have y2 := hM dy.1 d0.1
  have z1 := hM dz.1 c4.1
  have z2 := hM d0.1 c3.1
  have X := hS x1.1 x2.1
  have Y := hA y1.1 y2.1
  have Z := hA z1.1 z2.1
  have e3 := c3.2
  rw [(hS b3.1 a0.1).2, b3.2, a0.2, a1.2, (hA s0 s1).2, (hA t0 t1).2] at e3
  have e4 := c4.2
  rw [(hS b4.1 a1.1).2, b4.2, a1.2, a2.2, (hA s1 s2).2, (hA t1 t2).2] at e4
  have e5 := c5.2
  rw [(hS b5.1 a0.1).2, b5.2, a0.2, a2.2, (hA s0 s2).2, (hA t0 t2).2] at e5
  have eX := X.2
  rw [x1.2, x2.2, e3, e4, d1.2, dy.2, e5, d2.2, a1.2, a2.2] at eX
  have eY := Y.2
  rw [y1.2, y2.2, d1.2, dz.2, dy.2, e5, d0.2, (hA a0.1 a0.1).2, d2.2, a0.2, a1.2, a2.2] at eY
  have eZ := Z.2
  rw [z1.2, z2.2, dz.2, e4, d0.2, (hA a0.1 a0.1).2, d2.2, e3, a0.2, a1.2, a2.2] at eZ
  refine ⟨⟨X.1, Y.1, Z.1⟩, eX.trans ?_, eY.trans ?_, eZ.trans ?_⟩
  · unfold rx; clear eX eY eZ e3 e4 e5; grind
  · unfold ry; clear eX eY eZ e3 e4 e5; grind
  · unfold rz; clear eX eY eZ e3 e4 e5; grind
def lowOk (x : Fp2) : Prop := x.c0.ok ∧ x.c1 = zeroFp
def lowV (x : Fp2) : V1 := x.c0.v
theorem zero_zero {f : Fp → Fp → Fp} (h : f zeroFp zeroFp = zeroFp) {x y : Fp2} (hx : x.c1 = zeroFp) (hy : y.c1 = zeroFp) : f x.c1 y.c1 = zeroFp := by rw [hx, hy, h]
theorem addF_zz : addF zeroFp zeroFp = zeroFp := Fp.v_inj (add_ok' zero_ok' zero_ok') zero_ok' (by rw [v_add zero_ok' zero_ok', v_zero]; exact CR.add_zero _)
theorem subF_zz : subF zeroFp zeroFp = zeroFp := Fp.v_inj (sub_ok' zero_ok' zero_ok') zero_ok' (by rw [v_sub zero_ok' zero_ok', v_zero]; exact sub_of_eq rfl)
theorem lowMk2 {x y : Fp} {z : V1} (h : x.ok) (hy : y = zeroFp) (hv : x.v = z) : lowOk ⟨x, y⟩ ∧ lowV ⟨x, y⟩ = z := ⟨⟨h, hy⟩, hv⟩
theorem low_add {x y : Fp2} (hx : lowOk x) (hy : lowOk y) : lowOk (add2R x y) ∧ lowV (add2R x y) = lowV x + lowV y := by
  rw [add2R_eq, addF2_eq]
  exact lowMk2 (add_ok' hx.1 hy.1) (zero_zero addF_zz hx.2 hy.2) (v_add hx.1 hy.1)
theorem low_sub {x y : Fp2} (hx : lowOk x) (hy : lowOk y) : lowOk (sub2R x y) ∧ lowV (sub2R x y) = lowV x - lowV y := by
  rw [sub2R_eq, subF2_eq]
  exact lowMk2 (sub_ok' hx.1 hy.1) (zero_zero subF_zz hx.2 hy.2) (v_sub hx.1 hy.1)
theorem mulS_true (f0 : Fp → Fp → Fp) (f1 : Fp2 → Fp2 → Fp2) (x y : Fp2) : mulS_G f0 f1 x y true = ⟨f0 x.c0 y.c0, zeroFp⟩ := rfl
theorem mulS_false (f0 : Fp → Fp → Fp) (f1 : Fp2 → Fp2 → Fp2) (x y : Fp2) : mulS_G f0 f1 x y false = f1 x y := rfl
theorem lowMk {x : Fp} (h : x.ok) : lowOk ⟨x, zeroFp⟩ ∧ lowV ⟨x, zeroFp⟩ = x.v := ⟨⟨h, rfl⟩, rfl⟩
theorem low_mul {x y : Fp2} (hx : lowOk x) (hy : lowOk y) : lowOk (mulS x y true) ∧ lowV (mulS x y true) = lowV x * lowV y := by
  unfold mulS
  rw [mulS_true, mulPF_eq hx.1 hy.1, ← show (mulF x.c0 y.c0).v = lowV x * lowV y from v_mul hx.1 hy.1]
  exact lowMk (mul_ok' hx.1)
theorem b3_true (f0 f1 : Fp2 → Fp2 → Fp2) (f2 x : Fp2) : b3R_G f0 f1 f2 x true = f0 (f0 (f0 (f0 x x) (f0 x x)) (f0 (f0 x x) (f0 x x))) (f0 (f0 x x) (f0 x x)) := rfl
theorem b3_false (f0 f1 : Fp2 → Fp2 → Fp2) (f2 x : Fp2) : b3R_G f0 f1 f2 x false = f1 (f0 (f0 (f0 (f0 x x) (f0 x x)) (f0 (f0 x x) (f0 x x))) (f0 (f0 x x) (f0 x x))) f2 := rfl
theorem twelve_v {K : Type} [CR K] (x : K) : x + x + (x + x) + (x + x + (x + x)) + (x + x + (x + x)) = 3 * 4 * x := by grind
theorem low_b3 {x : Fp2} (hx : lowOk x) : lowOk (b3R x true) ∧ lowV (b3R x true) = 3 * Crv.b * lowV x := by
  unfold b3R
  rw [b3_true]
  have h2 := low_add hx hx
  have h4 := low_add h2.1 h2.1
  have h8 := low_add h4.1 h4.1
  have h12 := low_add h8.1 h4.1
  refine ⟨h12.1, ?_⟩
  rw [h12.2, h8.2, h4.2, h2.2]
  exact twelve_v _
def low3 (s : Fp6) : Prop := lowOk s.c0 ∧ lowOk s.c1 ∧ lowOk s.c2
def relR1 (s : Fp6) (p : Pt V1) : Prop := low3 s ∧ Pj (lowV s.c0) (lowV s.c1) (lowV s.c2) p
theorem add5_rel1 {s t : Fp6} {p q : Pt V1} (hp : p.on) (hq : q.on) (hs : relR1 s p) (ht : relR1 t q) : relR1 (addS5 s t true) (p.add q) := by
  unfold addS5
  obtain ⟨h1, h2, h3, h4⟩ := add5_G (b := (Crv.b : V1)) lowOk lowV low_add low_sub low_mul low_b3 hs.1 ht.1
  refine ⟨h1, ?_⟩
  rw [h2, h3, h4]
  exact sum_all hp hq hs.2 ht.2
theorem relR1_mk {a b c : Fp2} {p : Pt V1} (ha : lowOk a) (hb : lowOk b) (hc : lowOk c) (h : Pj (lowV a) (lowV b) (lowV c) p) : relR1 ⟨a, b, c⟩ p := ⟨⟨ha, hb, hc⟩, h⟩
theorem none5_eq : none5 = ⟨zeroFp2, oneFp2, zeroFp2⟩ := by
  unfold none5
  rw [one2R_eq]
  rfl
theorem zero_low : lowOk zeroFp2 ∧ lowV zeroFp2 = 0 := ⟨⟨zero_ok', rfl⟩, v_zero⟩
theorem one_low : lowOk oneFp2 ∧ lowV oneFp2 = 1 := ⟨⟨one_ok', rfl⟩, v_one⟩
theorem none_rel1 : relR1 none5 .inf := by
  rw [none5_eq]
  refine relR1_mk zero_low.1 one_low.1 zero_low.1 ?_
  rw [zero_low.2, one_low.2]
  exact ⟨rfl, rfl, one_ne'⟩
theorem of1_inf {f0 : Fp6} {f1 : Fp2} {a : Pg1} (h : a.inf = true) : of1R_G f0 f1 a = f0 := by unfold of1R_G; rw [h]
theorem of1_aff {f0 : Fp6} {f1 : Fp2} {a : Pg1} (h : a.inf = false) : of1R_G f0 f1 a = ⟨⟨a.x, zeroFp⟩, ⟨a.y, zeroFp⟩, f1⟩ := by unfold of1R_G; rw [h]
theorem of1_rel {a : Pg1} (ha : a.good) : relR1 (of1R a) a.pt := by
  unfold of1R
  cases hi : a.inf with
  | true => rw [of1_inf hi, pt1_inf hi]; exact none_rel1
  | false =>
    obtain ⟨hx, hy⟩ := ok_aff1 ha.1 hi
    rw [of1_aff hi, pt1_aff hi, one2R_eq]
    refine relR1_mk (lowMk hx).1 (lowMk hy).1 one_low.1 ?_
    rw [(lowMk hx).2, (lowMk hy).2, one_low.2]
    exact ⟨one_ne', (CR.mul_one _).symm, (CR.mul_one _).symm⟩
theorem to1_no {f0 : Fp → Fp × Int} {f1 : Fp → Fp → Fp} {s : Fp6} (h : (f0 s.c2.c0).2 = 7) : to1R_G f0 f1 s = infG1 := by
  unfold to1R_G
  rw [h]
  rfl
theorem to1_yes {f0 : Fp → Fp × Int} {f1 : Fp → Fp → Fp} {s : Fp6} (h : (f0 s.c2.c0).2 = 0) : to1R_G f0 f1 s = ⟨f1 s.c0.c0 (f0 s.c2.c0).1, f1 s.c1.c0 (f0 s.c2.c0).1, false⟩ := by
  unfold to1R_G
  rw [h]
  rfl
theorem pj_div {K : Type} [Fld K] {x z : K} (hz : z ≠ 0) : x * z * Fld.inv z = x := by
  have := mul_inv' hz
  grind
theorem to1_rel {s : Fp6} {p : Pt V1} (hp : p.on) (h : relR1 s p) : (to1R s).good ∧ (to1R s).pt = p := by
  obtain ⟨⟨h0, h1, h2⟩, hj⟩ := h
  obtain ⟨i1, i2⟩ := inv_v h2.1
  have ei := invPF_eq h2.1
  unfold to1R
  cases p with
  | inf =>
    rw [to1_no (by rw [ei]; exact i1 hj.2.1)]
    exact ⟨good_inf1, rfl⟩
  | aff x y =>
    obtain ⟨hz, e1, e2⟩ := hj
    obtain ⟨j1, j2, j3⟩ := i2 hz
    rw [to1_yes (by rw [ei]; exact j1), ei, mulPF_eq h0.1 j2, mulPF_eq h1.1 j2]
    refine good1_mk (mul_ok' h0.1) (mul_ok' h1.1) ?_ ?_ hp
    · rw [v_mul h0.1 j2, j3, show s.c0.c0.v = x * s.c2.c0.v from e1]
      exact pj_div hz
    · rw [v_mul h1.1 j2, j3, show s.c1.c0.v = y * s.c2.c0.v from e2]
      exact pj_div hz
theorem times_rel1 {s : Fp6} {p : Pt V1} (hp : p.on) (h : relR1 s p) (e : List UInt64) : relR1 (timesR s e true) (p.mul (valL e)) :=
  dblG_all relR1 hp (fun hq h => add5_rel1 hq hq h h) (fun hq k => add5_rel1 hq hp k h) e none_rel1
theorem big_mul {x y : Fp2} (hx : x.ok) (hy : y.ok) : (mulS x y false).ok ∧ (mulS x y false).v = x.v * y.v := by
  unfold mulS
  rw [mulS_false, mul2R_eq hx hy]
  exact ⟨mul_ok2 hx hy, v_mul2 hx hy⟩
theorem big_add {x y : Fp2} (hx : x.ok) (hy : y.ok) : (add2R x y).ok ∧ (add2R x y).v = x.v + y.v := by rw [add2R_eq]; exact ⟨add_ok2 hx hy, v_add2 hx hy⟩
theorem big_sub {x y : Fp2} (hx : x.ok) (hy : y.ok) : (sub2R x y).ok ∧ (sub2R x y).v = x.v - y.v := by rw [sub2R_eq]; exact ⟨sub_ok2 hx hy, v_sub2 hx hy⟩
theorem bb2_xi : bb2 = 4 * xi := Qd.ext'
  (by rw [V2.mul_a, xi_a, xi_b]; show (4 : V1) = 4 * 1 - 0 * 1; grind)
  (by rw [V2.mul_b, xi_a, xi_b]; show (4 : V1) = 4 * 1 + 0 * 1; grind)
theorem b3_xi (x k b : V2) (h : b = 4 * k) : 3 * 4 * x * k = 3 * b * x := by rw [h]; grind
theorem big_b3 {x : Fp2} (hx : x.ok) : (b3R x false).ok ∧ (b3R x false).v = 3 * Crv.b * x.v := by
  unfold b3R
  rw [b3_false]
  have h2 := big_add hx hx
  have h4 := big_add h2.1 h2.1
  have h8 := big_add h4.1 h4.1
  have h12 := big_add h8.1 h4.1
  rw [mul2R_eq h12.1 xi_ok2]
  refine ⟨mul_ok2 h12.1 xi_ok2, ?_⟩
  rw [v_mul2 h12.1 xi_ok2, h12.2, h8.2, h4.2, h2.2, twelve_v, v_xi2]
  exact b3_xi _ _ _ bb2_xi
def big3 (s : Fp6) : Prop := s.c0.ok ∧ s.c1.ok ∧ s.c2.ok
def relR2 (s : Fp6) (p : Pt V2) : Prop := big3 s ∧ Pj s.c0.v s.c1.v s.c2.v p
theorem add5_rel2 {s t : Fp6} {p q : Pt V2} (hp : p.on) (hq : q.on) (hs : relR2 s p) (ht : relR2 t q) : relR2 (addS5 s t false) (p.add q) := by
  unfold addS5
  obtain ⟨h1, h2, h3, h4⟩ := add5_G (b := (Crv.b : V2)) Fp2.ok Fp2.v big_add big_sub big_mul big_b3 hs.1 ht.1
  refine ⟨h1, ?_⟩
  rw [h2, h3, h4]
  exact sum_all hp hq hs.2 ht.2
theorem relR2_mk {a b c : Fp2} {p : Pt V2} (ha : a.ok) (hb : b.ok) (hc : c.ok) (h : Pj a.v b.v c.v p) : relR2 ⟨a, b, c⟩ p := ⟨⟨ha, hb, hc⟩, h⟩
theorem none_rel2 : relR2 none5 .inf := by
  rw [none5_eq]
  refine relR2_mk zero_ok2 one_ok2 zero_ok2 ?_
  rw [v_zero2, v_one2]
  exact ⟨rfl, rfl, one_ne'⟩
theorem of2_inf {f0 : Fp6} {f1 : Fp2} {a : Pg2} (h : a.inf = true) : of2R_G f0 f1 a = f0 := by unfold of2R_G; rw [h]
theorem of2_aff {f0 : Fp6} {f1 : Fp2} {a : Pg2} (h : a.inf = false) : of2R_G f0 f1 a = ⟨a.x, a.y, f1⟩ := by unfold of2R_G; rw [h]
theorem of2_rel {a : Pg2} (ha : a.good) : relR2 (of2R a) a.pt := by
  unfold of2R
  cases hi : a.inf with
  | true => rw [of2_inf hi, pt2_inf hi]; exact none_rel2
  | false =>
    obtain ⟨hx, hy⟩ := ok_aff2 ha.1 hi
    rw [of2_aff hi, pt2_aff hi, one2R_eq]
    refine relR2_mk hx hy one_ok2 ?_
    rw [v_one2]
    exact ⟨one_ne', (CR.mul_one _).symm, (CR.mul_one _).symm⟩
theorem to2_no {f0 : Fp2 → Fp2 × Int} {f1 : Fp2 → Fp2 → Fp2} {s : Fp6} (h : (f0 s.c2).2 = 7) : to2R_G f0 f1 s = infG2 := by
  unfold to2R_G
  rw [h]
  rfl
theorem to2_yes {f0 : Fp2 → Fp2 × Int} {f1 : Fp2 → Fp2 → Fp2} {s : Fp6} (h : (f0 s.c2).2 = 0) : to2R_G f0 f1 s = ⟨f1 s.c0 (f0 s.c2).1, f1 s.c1 (f0 s.c2).1, false⟩ := by
  unfold to2R_G
  rw [h]
  rfl
theorem to2_rel {s : Fp6} {p : Pt V2} (hp : p.on) (h : relR2 s p) : (to2R s).good ∧ (to2R s).pt = p := by
  obtain ⟨⟨h0, h1, h2⟩, hj⟩ := h
  obtain ⟨i1, i2⟩ := inv_v2' h2
  have ei := inv2R_eq h2
  unfold to2R
  cases p with
  | inf =>
    rw [to2_no (by rw [ei]; exact i1 hj.2.1)]
    exact ⟨good_inf2, rfl⟩
  | aff x y =>
    obtain ⟨hz, e1, e2⟩ := hj
    obtain ⟨j1, j2, j3⟩ := i2 hz
    rw [to2_yes (by rw [ei]; exact j1), ei, mul2R_eq h0 j2, mul2R_eq h1 j2]
    refine good2_mk (mul_ok2 h0 j2) (mul_ok2 h1 j2) ?_ ?_ hp
    · rw [v_mul2 h0 j2, j3, e1]
      exact pj_div hz
    · rw [v_mul2 h1 j2, j3, e2]
      exact pj_div hz
theorem times_rel2 {s : Fp6} {p : Pt V2} (hp : p.on) (h : relR2 s p) (e : List UInt64) : relR2 (timesR s e false) (p.mul (valL e)) :=
  dblG_all relR2 hp (fun hq h => add5_rel2 hq hq h h) (fun hq k => add5_rel2 hq hp k h) e none_rel2
theorem list4_val (k : Fr) : valL k.list = k.nat := by
  show valAt [k.l0, k.l1, k.l2, k.l3] 4 = _
  unfold Fr.nat
  simp only [valAt, atF, List.getD_eq_getElem?_getD, List.getElem?_cons_zero, List.getElem?_cons_succ, Option.getD_some, W64]
  omega
theorem times1_pt {s : Sp1} {p : Pt V1} (hp : p.on) (h : rel1 s p) (e : List UInt64) : rel1 (timesG1 s e) (p.mul (valL e)) :=
  dblG_all rel1 hp (fun hq h => twice1_rel hq h) (fun hq k => plus1_rel hq hp k h) e rel1_inf
theorem times2_pt {s : Fp6} {p : Pt V2} (hp : p.on) (h : rel2 s p) (e : List UInt64) : rel2 (timesG2 s e) (p.mul (valL e)) :=
  dblG_all rel2 hp (fun hq h => twice2_rel hq h) (fun hq k => plus2_rel hq hp k h) e rel2_inf
theorem minus1R_inf {f : Fp → Fp} {a : Pg1} (h : a.inf = true) : minus1R_G f a = a := by unfold minus1R_G; rw [h]; rfl
theorem minus1R_aff {f : Fp → Fp} {a : Pg1} (h : a.inf = false) : minus1R_G f a = ⟨a.x, f a.y, false⟩ := by unfold minus1R_G; rw [h]; rfl
theorem minus2R_inf {f : Fp2 → Fp2} {a : Pg2} (h : a.inf = true) : minus2R_G f a = a := by unfold minus2R_G; rw [h]; rfl
theorem minus2R_aff {f : Fp2 → Fp2} {a : Pg2} (h : a.inf = false) : minus2R_G f a = ⟨a.x, f a.y, false⟩ := by unfold minus2R_G; rw [h]; rfl
theorem minus1R_eq (a : Pg1) : minus1R a = negG1 a := by
  unfold minus1R negG1
  cases hi : a.inf with
  | true => rw [minus1R_inf hi, negG1_inf hi]
  | false => rw [minus1R_aff hi, negG1_aff hi, negPF_eq]
theorem minus2R_eq (a : Pg2) : minus2R a = negG2 a := by
  unfold minus2R negG2
  cases hi : a.inf with
  | true => rw [minus2R_inf hi, negG2_inf hi]
  | false => rw [minus2R_aff hi, negG2_aff hi, neg2R_eq]
end Go.Proofs.YtbbnabednkopdaaGreat

set_option linter.unusedSimpArgs false
set_option linter.unusedVariables false
namespace Go.Proofs.YtbbnabednkopdaaGreat
open Go.RowKit
def force {α : Type} (n : Nat) (k : Nat → α) : α := match n with
  | 0 => k 0
  | m + 1 => k (m + 1)
theorem force_eq {α : Type} (n : Nat) (k : Nat → α) : force n k = k n := by cases n <;> rfl
def fcV1 {α : Type} (a : V1) (k : V1 → α) : α := force a.nat fun n => k (V1.of n)
theorem fcV1_eq {α : Type} (a : V1) (k : V1 → α) : fcV1 a k = k a := by unfold fcV1; rw [force_eq, V1.of_nat]
def fcV2 {α : Type} (a : V2) (k : V2 → α) : α := force a.a.nat fun n => force a.b.nat fun m => k ⟨V1.of n, V1.of m⟩
theorem fcV2_eq {α : Type} (a : V2) (k : V2 → α) : fcV2 a k = k a := by unfold fcV2; rw [force_eq, force_eq, V1.of_nat, V1.of_nat]
def goP {K : Type} [Fld K] [Crv K] (fc : K → (K → K × K × K) → K × K × K) (b gx gy : K) (e : List UInt64) : Nat → K → K → K → K × K × K
  | 0, X, Y, Z => (X, Y, Z)
  | n + 1, X, Y, Z => fc (rx b X Y Z X Y Z) fun X' => fc (ry b X Y Z X Y Z) fun Y' => fc (rz b X Y Z X Y Z) fun Z' => match bitAt e n with
    | true => fc (rx b X' Y' Z' gx gy 1) fun X'' => fc (ry b X' Y' Z' gx gy 1) fun Y'' => fc (rz b X' Y' Z' gx gy 1) fun Z'' => goP fc b gx gy e n X'' Y'' Z''
    | false => goP fc b gx gy e n X' Y' Z'
theorem goP_eq {K : Type} [Fld K] [Crv K] {fc : K → (K → K × K × K) → K × K × K} (h : ∀ a k, fc a k = k a) (b gx gy : K) (e : List UInt64) : ∀ (n : Nat) (X Y Z : K),
    goP fc b gx gy e n X Y Z = dblG (fun s => (rx b s.1 s.2.1 s.2.2 s.1 s.2.1 s.2.2, ry b s.1 s.2.1 s.2.2 s.1 s.2.1 s.2.2, rz b s.1 s.2.1 s.2.2 s.1 s.2.1 s.2.2)) (fun s => (rx b s.1 s.2.1 s.2.2 gx gy 1, ry b s.1 s.2.1 s.2.2 gx gy 1, rz b s.1 s.2.1 s.2.2 gx gy 1)) e n (X, Y, Z)
  | 0, X, Y, Z => rfl
  | n + 1, X, Y, Z => by
    simp only [goP, h, dblG]
    cases bitAt e n with
    | true => exact goP_eq h b gx gy e n _ _ _
    | false => exact goP_eq h b gx gy e n _ _ _
theorem order_of {K : Type} [Fld K] [Crv K] {fc : K → (K → K × K × K) → K × K × K} (h : ∀ a k, fc a k = k a) {gx gy : K} (hg : (Pt.aff gx gy).on) (e : List UInt64) (hz : (goP fc Crv.b gx gy e (64 * e.length) 0 1 0).2.2 = 0) : (Pt.aff gx gy).mul (valL e) = .inf := by
  rw [goP_eq h] at hz
  have key := dblG_all (fun (s : K × K × K) p => Pj s.1 s.2.1 s.2.2 p) (p := Pt.aff gx gy) hg (tw := fun s => (rx Crv.b s.1 s.2.1 s.2.2 s.1 s.2.1 s.2.2, ry Crv.b s.1 s.2.1 s.2.2 s.1 s.2.1 s.2.2, rz Crv.b s.1 s.2.1 s.2.2 s.1 s.2.1 s.2.2)) (pl := fun s => (rx Crv.b s.1 s.2.1 s.2.2 gx gy 1, ry Crv.b s.1 s.2.1 s.2.2 gx gy 1, rz Crv.b s.1 s.2.1 s.2.2 gx gy 1))
    (fun hq k => sum_all hq hq k k) (fun hq k => sum_all hq hg k ⟨one_ne', (CR.mul_one _).symm, (CR.mul_one _).symm⟩) e (o := ((0 : K), (1 : K), (0 : K))) ⟨rfl, rfl, one_ne'⟩
  generalize (Pt.aff gx gy).mul (valL e) = p at *
  cases p with
  | inf => rfl
  | aff x y => exact absurd hz key.1
theorem gen1_ok : oneG1.x.ok ∧ oneG1.y.ok := ⟨by unfold Fp.ok; decide +kernel, by unfold Fp.ok; decide +kernel⟩
theorem gen1_aff : oneG1.inf = false := rfl
theorem gen1_on : (Pt.aff oneG1.x.v oneG1.y.v).on := V1.ext (by
  show (oneG1.y.v * oneG1.y.v).nat = (oneG1.x.v * oneG1.x.v * oneG1.x.v + (4 : V1)).nat
  rw [V1.nat_mul, V1.nat_add, V1.nat_mul, V1.nat_mul, Fp.v_nat gen1_ok.1, Fp.v_nat gen1_ok.2]
  decide +kernel)
theorem gen1_good : oneG1.good := ⟨.inr ⟨gen1_aff, gen1_ok⟩, gen1_on⟩
theorem gen1_pt : oneG1.pt = .aff oneG1.x.v oneG1.y.v := pt1_aff gen1_aff
theorem rLimbs_val : valL rLimbs.list = qN := by rw [list4_val, rLimbs_nat]
theorem gen1_order : oneG1.pt.mul qN = .inf := by
  rw [← rLimbs_val, gen1_pt]
  exact order_of (fc := fcV1) fcV1_eq gen1_on rLimbs.list (V1.ext (by decide +kernel))
theorem gen2_ok : oneG2.x.ok ∧ oneG2.y.ok := ⟨⟨by unfold Fp.ok; decide +kernel, by unfold Fp.ok; decide +kernel⟩, ⟨by unfold Fp.ok; decide +kernel, by unfold Fp.ok; decide +kernel⟩⟩
theorem gen2_aff : oneG2.inf = false := rfl
theorem V2.ext_nat {x y : V2} (h : x.a.nat = y.a.nat) (g : x.b.nat = y.b.nat) : x = y := Qd.ext' (V1.ext h) (V1.ext g)
theorem gen2_on : (Pt.aff oneG2.x.v oneG2.y.v).on := V2.ext_nat (by
  show ((oneG2.y.v * oneG2.y.v).a).nat = (oneG2.x.v * oneG2.x.v * oneG2.x.v + bb2).a.nat
  decide +kernel) (by
  show ((oneG2.y.v * oneG2.y.v).b).nat = (oneG2.x.v * oneG2.x.v * oneG2.x.v + bb2).b.nat
  decide +kernel)
theorem gen2_good : oneG2.good := ⟨.inr ⟨gen2_aff, gen2_ok⟩, gen2_on⟩
theorem gen2_pt : oneG2.pt = .aff oneG2.x.v oneG2.y.v := pt2_aff gen2_aff
theorem gen2_order : oneG2.pt.mul qN = .inf := by
  rw [← rLimbs_val, gen2_pt]
  exact order_of (fc := fcV2) fcV2_eq gen2_on rLimbs.list (V2.ext_nat (by decide +kernel) (by decide +kernel))
end Go.Proofs.YtbbnabednkopdaaGreat

set_option linter.unusedSimpArgs false
set_option linter.unusedVariables false
namespace Go.Proofs.YtbbnabednkopdaaGreat
open Go.RowKit
theorem pt1_none {a : Pg1} (ha : a.good) : a.inf = true ↔ a.pt = .inf := by
  cases hi : a.inf with
  | true => rw [pt1_inf hi]; simp
  | false => rw [pt1_aff hi]; simp
theorem jc_zero {X Y Z : V1} (h : Jc X Y Z .inf) : Z = 0 := h
theorem inG1_def (f0 : Pg1 → Bool) (f1 : Fp → Bool) (f2 : Sp1 → List UInt64 → Sp1) (f3 : Pg1 → Sp1) (f4 : Fr) (a : Pg1) : inG1_G f0 f1 f2 f3 f4 a = (f0 a && f1 (f2 (f3 a) f4.list).z) := by
  unfold inG1_G
  cases f0 a <;> rfl
theorem rel1_none {s : Sp1} {p : Pt V1} (h : rel1 s p) : zeroG1 s.z = true ↔ p = .inf := by
  rw [m1_zero h.1.2.2]
  constructor
  · exact h.2.inf_of
  · intro e
    subst e
    exact jc_zero h.2
theorem in1_iff (a : Pg1) : inG1 a = true ↔ a.good ∧ a.pt.mul qN = .inf := by
  have key : a.good → (zeroG1 (timesG1 (liftG1 a) rLimbs.list).z = true ↔ a.pt.mul qN = .inf) := fun hg => by
    rw [← rLimbs_val]
    exact rel1_none (times1_pt hg.2 (lift1_rel hg) rLimbs.list)
  unfold inG1
  rw [inG1_def, Bool.and_eq_true, on1_iff]
  exact ⟨fun h => ⟨h.1, (key h.1).1 h.2⟩, fun h => ⟨h.1, (key h.1).2 h.2⟩⟩
theorem in1R_def (f0 : Fp6 → Pg1) (f1 : Fp6 → List UInt64 → Bool → Fp6) (f2 : Pg1 → Fp6) (f3 : Fr) (a : Pg1) : in1R_G f0 f1 f2 f3 a = (f0 (f1 (f2 a) f3.list true)).inf := rfl
theorem in1R_iff {a : Pg1} (ha : a.good) : in1R a = true ↔ a.pt.mul qN = .inf := by
  unfold in1R
  rw [in1R_def]
  have h := to1_rel (mul_on ha.2 _) (times_rel1 ha.2 (of1_rel ha) rLimbs.list)
  rw [pt1_none h.1, h.2, rLimbs_val]
theorem in1R_eq {a : Pg1} (ha : a.good) : in1R a = inG1 a := Bool.eq_iff_iff.2 (by rw [in1R_iff ha, in1_iff]; exact ⟨fun h => ⟨ha, h⟩, fun h => h.2⟩)
theorem two_nat : (⟨2, 0, 0, 0⟩ : Fr).nat = 2 := by decide +kernel
end Go.Proofs.YtbbnabednkopdaaGreat

set_option linter.unusedSimpArgs false
set_option linter.unusedVariables false
namespace Go.Proofs.YtbbnabednkopdaaGreat
open Go.RowKit
theorem pt2_none {a : Pg2} (ha : a.good) : a.inf = true ↔ a.pt = .inf := by
  cases hi : a.inf with
  | true => rw [pt2_inf hi]; simp
  | false => rw [pt2_aff hi]; simp
theorem jc_zero2 {X Y Z : V2} (h : Jc X Y Z .inf) : Z = 0 := h
theorem inG2_def (f0 : Pg2 → Bool) (f1 : Fp2 → Bool) (f2 : Fp6 → List UInt64 → Fp6) (f3 : Pg2 → Fp6) (f4 : Fr) (a : Pg2) : inG2_G f0 f1 f2 f3 f4 a = (f0 a && f1 (f2 (f3 a) f4.list).c2) := by
  unfold inG2_G
  cases f0 a <;> rfl
theorem rel2_none {s : Fp6} {p : Pt V2} (h : rel2 s p) : zeroG2 s.c2 = true ↔ p = .inf := by
  rw [m2_zero h.1.2.2]
  constructor
  · exact h.2.inf_of
  · intro e
    subst e
    exact jc_zero2 h.2
theorem in2_iff (a : Pg2) : inG2 a = true ↔ a.good ∧ a.pt.mul qN = .inf := by
  have key : a.good → (zeroG2 (timesG2 (liftG2 a) rLimbs.list).c2 = true ↔ a.pt.mul qN = .inf) := fun hg => by
    rw [← rLimbs_val]
    exact rel2_none (times2_pt hg.2 (lift2_rel hg) rLimbs.list)
  unfold inG2
  rw [inG2_def, Bool.and_eq_true, on2_iff]
  exact ⟨fun h => ⟨h.1, (key h.1).1 h.2⟩, fun h => ⟨h.1, (key h.1).2 h.2⟩⟩
theorem in2R_def (f0 : Fp6 → Pg2) (f1 : Fp6 → List UInt64 → Bool → Fp6) (f2 : Pg2 → Fp6) (f3 : Fr) (a : Pg2) : in2R_G f0 f1 f2 f3 a = (f0 (f1 (f2 a) f3.list false)).inf := rfl
theorem in2R_iff {a : Pg2} (ha : a.good) : in2R a = true ↔ a.pt.mul qN = .inf := by
  unfold in2R
  rw [in2R_def]
  have h := to2_rel (mul_on ha.2 _) (times_rel2 ha.2 (of2_rel ha) rLimbs.list)
  rw [pt2_none h.1, h.2, rLimbs_val]
theorem in2R_eq {a : Pg2} (ha : a.good) : in2R a = inG2 a := Bool.eq_iff_iff.2 (by rw [in2R_iff ha, in2_iff]; exact ⟨fun h => ⟨ha, h⟩, fun h => h.2⟩)
end Go.Proofs.YtbbnabednkopdaaGreat

set_option linter.unusedSimpArgs false
set_option linter.unusedVariables false
namespace Go.Proofs.YtbbnabednkopdaaGreat
open Go.RowKit
def coreG {X P : Type} (xo : X × Int) (sF : X → X × Bool) (cub : X → X) (isz : X → Bool) (fin : Bool → X → X → P) (inF : P → Bool) (z : P) (high : Bool) : P × Int :=
  cond (xo.2 != 0) (z, xo.2) (cond (!(sF (cub xo.1)).2) (z, 5) (cond (high && isz (sF (cub xo.1)).1) (z, 3) (cond (!inF (fin high xo.1 (sF (cub xo.1)).1)) (z, 6) (fin high xo.1 (sF (cub xo.1)).1, 0))))
def takeV {P : Type} (r : List UInt8 × Bool × Bool × Int) (z i : P) (c : P × Int) : P × Int := cond (r.2.2.2 != 0) (z, r.2.2.2) (cond r.2.1 (i, 0) c)
def twoG (f1 : List UInt8 → Fp × Int) (l : List UInt8) : Fp2 × Int := cond ((f1 (List.take 48 l)).2 != 0) (zeroFp2, (f1 (List.take 48 l)).2) (cond ((f1 (List.drop 48 l)).2 != 0) (zeroFp2, (f1 (List.drop 48 l)).2) (⟨(f1 (List.drop 48 l)).1, (f1 (List.take 48 l)).1⟩, 0))
theorem take1_val (f0 : List UInt8 → Int → List UInt8 × Bool × Bool × Int) (f1 : List UInt8 → Fp × Int) (f2 : Fp → Fp × Bool) (f3 f4 : Fp → Fp → Fp) (f5 : UInt64 → Fp) (f6 : Pg1 → Pg1) (f7 : Pg1 → Bool) (b : List UInt8) :
    (take1F_T f0 f1 f2 f3 f4 f5 f6 f7 b).outD (pg10, 0) = takeV (f0 b 48) pg10 infG1 (coreG (f1 (f0 b 48).1) f2 (fun x => f3 (f4 (f4 x x) x) (f5 4)) (fun y => fpEq y zeroFp) (fun h x y => cond h (f6 ⟨x, y, false⟩) ⟨x, y, false⟩) f7 pg10 (f0 b 48).2.2.1) := by
  unfold take1F_T takeV coreG
  simp only [outD_br, outD_vc, outD_leaf, whole8]
  generalize f0 b 48 = r
  obtain ⟨l, i, h, e⟩ := r
  generalize f1 l = x
  obtain ⟨x, o⟩ := x
  have e4 : f5 (UInt64.ofNat 4) = f5 4 := rfl
  rw [e4]
  generalize f2 (f3 (f4 (f4 x x) x) (f5 4)) = s
  obtain ⟨y, is⟩ := s
  cases h <;> cases is <;> first
    | rfl
    | (cases hz : fpEq y zeroFp <;> rfl)
theorem rtake1_val (f0 : List UInt8 → Int → List UInt8 × Bool × Bool × Int) (f1 : List UInt8 → Fp × Int) (f2 : Fp → Fp × Bool) (f3 f4 : Fp → Fp → Fp) (f5 : UInt64 → Fp) (f6 : Fp → Fp) (f7 : Pg1 → Bool) (b : List UInt8) (he : ((f0 b 48).2.2.2 != 0) = true → (f0 b 48).2.1 = false) :
    (rtake1F_T f0 f1 f2 f3 f4 f5 f6 f7 b).outD (pg10, 0) = takeV (f0 b 48) pg10 infG1 (coreG (f1 (f0 b 48).1) f2 (fun x => f3 (f4 (f4 x x) x) (f5 4)) (fun y => fpEq y zeroFp) (fun h x y => cond h ⟨x, f6 y, false⟩ ⟨x, y, false⟩) f7 pg10 (f0 b 48).2.2.1) := by
  unfold rtake1F_T takeV coreG
  simp only [outD_br, outD_vc, outD_leaf, whole8]
  generalize f0 b 48 = r at he ⊢
  obtain ⟨l, i, h, e⟩ := r
  generalize f1 l = x
  obtain ⟨x, o⟩ := x
  have e4 : f5 (UInt64.ofNat 4) = f5 4 := rfl
  rw [e4]
  generalize f2 (f3 (f4 (f4 x x) x) (f5 4)) = s
  obtain ⟨y, is⟩ := s
  cases hc : (e != 0) with
  | true =>
    obtain rfl : i = false := he hc
    simp only [hc]
    rfl
  | false =>
    obtain rfl : e = 0 := int_zero hc
    simp only [hc]
    cases i with
    | true => rfl
    | false =>
      cases h <;> cases is <;> first
        | rfl
        | (cases hz : fpEq y zeroFp <;> simp only [show ∀ y, fpEq y { l0 := UInt64.ofNat 0, l1 := UInt64.ofNat 0, l2 := UInt64.ofNat 0, l3 := UInt64.ofNat 0, l4 := UInt64.ofNat 0, l5 := UInt64.ofNat 0 } = fpEq y zeroFp from fun _ => rfl, hz] <;> rfl)
theorem dropTail (l : List UInt8) : List.take (l.length - 48) (List.drop 48 l) = List.drop 48 l := List.take_of_length_le (by rw [List.length_drop]; exact Nat.le_refl _)
theorem take2_val (f0 : List UInt8 → Int → List UInt8 × Bool × Bool × Int) (f1 : List UInt8 → Fp × Int) (f2 : Fp2 → Fp2 × Bool) (f3 f4 : Fp2 → Fp2 → Fp2) (f6 : Pg2 → Pg2) (f7 : Pg2 → Bool) (b : List UInt8) :
    (take2F_T f0 f1 f2 f3 f4 f6 f7 b).outD (pg20, 0) = takeV (f0 b 96) pg20 infG2 (coreG (twoG f1 (f0 b 96).1) f2 (fun x => f3 (f4 (f4 x x) x) bFp2) (fun y => fp2Eq y zeroFp2) (fun h x y => cond h (f6 ⟨x, y, false⟩) ⟨x, y, false⟩) f7 pg20 (f0 b 96).2.2.1) := by
  unfold take2F_T takeV coreG twoG
  simp only [outD_br, outD_vc, outD_leaf, dropTail, List.drop_zero, List.take_length]
  generalize f0 b 96 = r
  obtain ⟨l, i, h, e⟩ := r
  simp only
  generalize f1 (List.take 48 l) = x
  obtain ⟨x, o⟩ := x
  generalize f1 (List.drop 48 l) = z
  obtain ⟨z, o2⟩ := z
  simp only
  cases hx : (o != 0) with
  | true => simp only [cond_true, hx]; rfl
  | false =>
    cases hz : (o2 != 0) with
    | true => simp only [cond_true, cond_false, hz]; rfl
    | false =>
      simp only [cond_false]
      have e4 : ({ c0 := { l0 := UInt64.ofNat 4, l1 := UInt64.ofNat 0, l2 := UInt64.ofNat 0, l3 := UInt64.ofNat 0, l4 := UInt64.ofNat 0, l5 := UInt64.ofNat 0 }, c1 := { l0 := UInt64.ofNat 4, l1 := UInt64.ofNat 0, l2 := UInt64.ofNat 0, l3 := UInt64.ofNat 0, l4 := UInt64.ofNat 0, l5 := UInt64.ofNat 0 } } : Fp2) = bFp2 := rfl
      rw [e4]
      generalize f2 (f3 (f4 (f4 ⟨z, x⟩ ⟨z, x⟩) ⟨z, x⟩) bFp2) = s
      obtain ⟨y, is⟩ := s
      cases h <;> cases is <;> first
        | rfl
        | (cases hz : fp2Eq y zeroFp2 <;> rfl)
theorem rtake2_val (f0 : List UInt8 → Int → List UInt8 × Bool × Bool × Int) (f1 : List UInt8 → Fp × Int) (f2 : Fp2 → Fp2 × Bool) (f3 f4 : Fp2 → Fp2 → Fp2) (f5 : Fp2) (f6 : Fp2 → Fp2) (f7 : Pg2 → Bool) (b : List UInt8) (he : ((f0 b 96).2.2.2 != 0) = true → (f0 b 96).2.1 = false) :
    (rtake2F_T f0 f1 f2 f3 f4 f5 f6 f7 b).outD (pg20, 0) = takeV (f0 b 96) pg20 infG2 (coreG (twoG f1 (f0 b 96).1) f2 (fun x => f3 (f4 (f4 x x) x) f5) (fun y => fp2Eq y zeroFp2) (fun h x y => cond h ⟨x, f6 y, false⟩ ⟨x, y, false⟩) f7 pg20 (f0 b 96).2.2.1) := by
  unfold rtake2F_T takeV coreG twoG
  simp only [outD_br, outD_vc, outD_leaf, dropTail, List.drop_zero, List.take_length]
  generalize f0 b 96 = r at he ⊢
  obtain ⟨l, i, h, e⟩ := r
  simp only at he ⊢
  generalize f1 (List.take 48 l) = x
  obtain ⟨x, o⟩ := x
  generalize f1 (List.drop 48 l) = z
  obtain ⟨z, o2⟩ := z
  simp only
  cases hc : (e != 0) with
  | true =>
    obtain rfl : i = false := he hc
    rfl
  | false =>
    obtain rfl : e = 0 := int_zero hc
    cases i with
    | true => rfl
    | false =>
      simp only [bne]
      cases hx : (o == 0) with
      | false =>
        simp only [Bool.not_false, cond_true, hx]
        rfl
      | true =>
        obtain rfl : o = 0 := by simpa using hx
        cases hz : (o2 == 0) with
        | false =>
          simp only [Bool.not_false, Bool.not_true, cond_true, cond_false, hz]
          rfl
        | true =>
          simp only [cond_false, cond_true, Bool.not_true]
          generalize f2 (f3 (f4 (f4 ⟨z, x⟩ ⟨z, x⟩) ⟨z, x⟩) f5) = s
          obtain ⟨y, is⟩ := s
          cases h <;> cases is <;> first
            | rfl
            | (simp only [show ∀ y, fp2Eq y { c0 := { l0 := UInt64.ofNat 0, l1 := UInt64.ofNat 0, l2 := UInt64.ofNat 0, l3 := UInt64.ofNat 0, l4 := UInt64.ofNat 0, l5 := UInt64.ofNat 0 }, c1 := { l0 := UInt64.ofNat 0, l1 := UInt64.ofNat 0, l2 := UInt64.ofNat 0, l3 := UInt64.ofNat 0, l4 := UInt64.ofNat 0, l5 := UInt64.ofNat 0 } } = fp2Eq y zeroFp2 from fun _ => rfl]; cases hz : fp2Eq y zeroFp2 <;> rfl)
end Go.Proofs.YtbbnabednkopdaaGreat
