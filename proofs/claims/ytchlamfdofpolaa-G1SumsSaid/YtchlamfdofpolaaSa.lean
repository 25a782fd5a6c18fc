/- Points of g1 by value. -/
import Derived.Test.YtchlamfdofpolaaRc
import Derived.Test.YtchlamfdofpolaaQb
set_option linter.unusedSimpArgs false
set_option linter.unusedVariables false
namespace Go.Proofs.Ytchlamfdofpolaa
open Go.RowKit

/-! the functions' forms -/
/-- The curve's number. -/
def bFp1 : Fp := ⟨4, 0, 0, 0, 0, 0⟩
theorem bFp1_v : bFp1.ok ∧ bFp1.v = Crv.b := ⟨ofF_ok 4, by
  show (ofF 4).v = 4
  rw [v_of]
  exact V1.ext (by decide +kernel)⟩
theorem onG1_inf {f0 : Fp → Bool} {f1 : Fp → Fp → Fp} {f2 : Fp → Fp} {p : Pg1} (h : p.inf = true) : onG1_G f0 f1 f2 p = pg1Eq p infG1 := by unfold onG1_G; rw [h]
theorem onG1_aff {f0 : Fp → Bool} {f1 : Fp → Fp → Fp} {f2 : Fp → Fp} {p : Pg1} (h : p.inf = false) : onG1_G f0 f1 f2 p = (f0 p.x && f0 p.y && fpEq (f1 p.y p.y) (f2 p.x)) := by
  unfold onG1_G
  rw [h]
  cases f0 p.x <;> cases f0 p.y <;> rfl
theorem liftG1_inf {f0 : Fp → Fp} {p : Pg1} (h : p.inf = true) : liftG1_G f0 p = zeroSp := by unfold liftG1_G; rw [h]
theorem liftG1_aff {f0 : Fp → Fp} {p : Pg1} (h : p.inf = false) : liftG1_G f0 p = ⟨f0 p.x, f0 p.y, f0 oneFp⟩ := by unfold liftG1_G; rw [h]
theorem laysG1_no {f0 : Fp → Fp × Int} {f1 : Fp → Fp} {f2 : Fp → Fp → Fp} {s : Sp1} (h : (f0 (f1 s.z)).2 = 7) : laysG1_G f0 f1 f2 s = infG1 := by
  unfold laysG1_G
  rw [h]
  rfl
theorem laysG1_yes {f0 : Fp → Fp × Int} {f1 : Fp → Fp} {f2 : Fp → Fp → Fp} {s : Sp1} (h : (f0 (f1 s.z)).2 = 0) : laysG1_G f0 f1 f2 s = ⟨f2 (f1 s.x) (f2 (f0 (f1 s.z)).1 (f0 (f1 s.z)).1), f2 (f1 s.y) (f2 (f2 (f0 (f1 s.z)).1 (f0 (f1 s.z)).1) (f0 (f1 s.z)).1), false⟩ := by
  unfold laysG1_G
  rw [h]
  rfl
theorem negG1_inf {f0 : Fp → Fp} {p : Pg1} (h : p.inf = true) : negG1_G f0 p = p := by unfold negG1_G; rw [h]
theorem negG1_aff {f0 : Fp → Fp} {p : Pg1} (h : p.inf = false) : negG1_G f0 p = ⟨p.x, f0 p.y, false⟩ := by unfold negG1_G; rw [h]
theorem zeroG1_eq (a : Fp) : zeroG1 a = fpEq a zeroFp := by unfold zeroG1 zeroG1_G; rfl
theorem eqG1_eq (a b : Pg1) : eqG1 a b = pg1Eq a b := by unfold eqG1 eqG1_G; rfl

/-! points -/
def Pg1.pt (p : Pg1) : Pt V1 := match p.inf with
  | true => .inf
  | false => .aff p.x.v p.y.v
def Pg1.ok (p : Pg1) : Prop := p = infG1 ∨ (p.inf = false ∧ p.x.ok ∧ p.y.ok)
/-- A point of the curve. -/
def Pg1.good (p : Pg1) : Prop := p.ok ∧ p.pt.on
theorem pt1_inf {p : Pg1} (h : p.inf = true) : p.pt = .inf := by unfold Pg1.pt; rw [h]
theorem pt1_aff {p : Pg1} (h : p.inf = false) : p.pt = .aff p.x.v p.y.v := by unfold Pg1.pt; rw [h]
theorem pt1_infG : infG1.pt = .inf := rfl
theorem good_inf1 : infG1.good := ⟨.inl rfl, trivial⟩
theorem ok_inf1 {p : Pg1} (h : p.ok) (hi : p.inf = true) : p = infG1 := by
  rcases h with h | ⟨h, _⟩
  · exact h
  · rw [hi] at h; cases h
theorem ok_aff1 {p : Pg1} (h : p.ok) (hi : p.inf = false) : p.x.ok ∧ p.y.ok := by
  rcases h with h | ⟨_, h⟩
  · rw [h] at hi; cases hi
  · exact h
theorem pg1_eq {a b : Pg1} (h1 : a.x = b.x) (h2 : a.y = b.y) (h3 : a.inf = b.inf) : a = b := by
  cases a; cases b
  simp_all
theorem pt1_mk (x y : Fp) : (⟨x, y, false⟩ : Pg1).pt = .aff x.v y.v := rfl
theorem good1_mk {x y : Fp} {u v : V1} (hx : x.ok) (hy : y.ok) (ex : x.v = u) (ey : y.v = v) (h : (Pt.aff u v).on) : (⟨x, y, false⟩ : Pg1).good ∧ (⟨x, y, false⟩ : Pg1).pt = .aff u v := by
  subst ex ey
  exact ⟨⟨.inr ⟨rfl, hx, hy⟩, h⟩, rfl⟩
theorem pt1_inj {a b : Pg1} (ha : a.ok) (hb : b.ok) (h : a.pt = b.pt) : a = b := by
  cases ea : a.inf with
  | true =>
    cases eb : b.inf with
    | true => rw [ok_inf1 ha ea, ok_inf1 hb eb]
    | false => rw [pt1_inf ea, pt1_aff eb] at h; cases h
  | false =>
    cases eb : b.inf with
    | true => rw [pt1_aff ea, pt1_inf eb] at h; cases h
    | false =>
      rw [pt1_aff ea, pt1_aff eb] at h
      obtain ⟨a1, a2⟩ := ok_aff1 ha ea
      obtain ⟨b1, b2⟩ := ok_aff1 hb eb
      injection h with h1 h2
      exact pg1_eq (Fp.v_inj a1 b1 h1) (Fp.v_inj a2 b2 h2) (ea.trans eb.symm)
theorem pg1Eq_pt {a b : Pg1} (ha : a.ok) (hb : b.ok) : pg1Eq a b = true ↔ a.pt = b.pt := ⟨fun h => by rw [(pg1Eq_iff a b).1 h], fun h => (pg1Eq_iff a b).2 (pt1_inj ha hb h)⟩

/-! spots -/
/-- A number that stands times Montgomery's. -/
def m1 (a : Fp) : V1 := ri * a.v
theorem m1_add {a b : Fp} (ha : a.ok) (hb : b.ok) : m1 (addF a b) = m1 a + m1 b := by unfold m1; rw [v_add1 ha hb]; exact CR.dist _ _ _
theorem m1_sub {a b : Fp} (ha : a.ok) (hb : b.ok) : m1 (subF a b) = m1 a - m1 b := by unfold m1; rw [v_sub1 ha hb]; grind
theorem m1_half {a b : Fp} (ha : a.ok) (hb : b.ok) : m1 (halfF a b) = m1 a * m1 b := by unfold m1; rw [v_half1 ha hb]; grind
theorem m1_whole {a : Fp} (ha : a.ok) : m1 (wholeF a) = a.v := by
  unfold m1
  rw [v_whole1 ha]
  have := rv_ri
  grind
theorem v_low_m1 {a : Fp} (ha : a.ok) : (lowF a).v = m1 a := v_low1 ha
theorem ri_ne1 : ri ≠ 0 := fun e => one_ne' (K := V1) (by rw [← rv_ri, e]; exact CR.mul_zero _)
theorem m1_zero {a : Fp} (ha : a.ok) : zeroG1 a = true ↔ m1 a = 0 := by
  rw [zeroG1_eq, eq_v1 ha zero_ok1, v_zero1]
  unfold m1
  constructor
  · intro h; rw [h]; exact CR.mul_zero _
  · intro h; exact (mul_eq_zero' h).resolve_left ri_ne1
theorem m1_nonzero {a : Fp} (ha : a.ok) : zeroG1 a = false ↔ m1 a ≠ 0 := by rw [← Bool.not_eq_true, m1_zero ha]
/-- A spot of a point. -/
def rel1 (s : Sp1) (p : Pt V1) : Prop := (s.x.ok ∧ s.y.ok ∧ s.z.ok) ∧ Jc (m1 s.x) (m1 s.y) (m1 s.z) p
theorem rel1_mk {x y z : Fp} {p : Pt V1} (hx : x.ok) (hy : y.ok) (hz : z.ok) (h : Jc (m1 x) (m1 y) (m1 z) p) : rel1 ⟨x, y, z⟩ p := ⟨⟨hx, hy, hz⟩, h⟩
theorem rel1_inf : rel1 zeroSp .inf := ⟨⟨zero_ok1, zero_ok1, zero_ok1⟩, by
  show m1 zeroFp = 0
  unfold m1
  rw [v_zero1]
  exact CR.mul_zero _⟩
theorem lift1_rel {p : Pg1} (h : p.good) : rel1 (liftG1 p) p.pt := by
  unfold liftG1
  cases hi : p.inf with
  | true => rw [liftG1_inf hi, pt1_inf hi]; exact rel1_inf
  | false =>
    obtain ⟨hx, hy⟩ := ok_aff1 h.1 hi
    rw [liftG1_aff hi, pt1_aff hi]
    refine rel1_mk (whole_ok1 hx) (whole_ok1 hy) (whole_ok1 one_ok1) ?_
    rw [m1_whole hx, m1_whole hy, m1_whole one_ok1, v_one1]
    exact ⟨one_ne', by grind, by grind⟩
theorem jc_inv {K : Type} [Fld K] {x z : K} (hz : z ≠ 0) : x * (z * z) * (Fld.inv z * Fld.inv z) = x := by
  have := mul_inv' hz
  grind
theorem jc_inv3 {K : Type} [Fld K] {y z : K} (hz : z ≠ 0) : y * (z * z * z) * (Fld.inv z * Fld.inv z * Fld.inv z) = y := by
  have := mul_inv' hz
  grind
theorem lays1_rel {s : Sp1} {p : Pt V1} (hp : p.on) (h : rel1 s p) : (laysG1 s).good ∧ (laysG1 s).pt = p := by
  obtain ⟨⟨hx, hy, hz⟩, hj⟩ := h
  obtain ⟨i1, i2⟩ := inv_v1 (low_ok1 hz)
  rw [v_low_m1 hz] at i1 i2
  unfold laysG1
  by_cases h0 : m1 s.z = 0
  · rw [laysG1_no (i1 h0), hj.inf_of h0]
    exact ⟨good_inf1, rfl⟩
  · obtain ⟨j1, j2, j3⟩ := i2 h0
    obtain ⟨x, y, rfl, e1, e2⟩ := hj.aff_of h0
    rw [laysG1_yes j1]
    have kk := mul_ok1 j2 j2
    have kkk := mul_ok1 kk j2
    have lx := low_ok1 hx
    have ly := low_ok1 hy
    have ex : (mulF (lowF s.x) (mulF (invF (lowF s.z)).1 (invF (lowF s.z)).1)).v = x := by
      rw [v_mul1 lx kk, v_mul1 j2 j2, v_low_m1 hx, j3, e1]
      exact jc_inv h0
    have ey : (mulF (lowF s.y) (mulF (mulF (invF (lowF s.z)).1 (invF (lowF s.z)).1) (invF (lowF s.z)).1)).v = y := by
      rw [v_mul1 ly kkk, v_mul1 kk j2, v_mul1 j2 j2, v_low_m1 hy, j3, e2]
      exact jc_inv3 h0
    exact good1_mk (mul_ok1 lx kk) (mul_ok1 ly kkk) ex ey hp
theorem jx_of (x y : V1) : ((x * x + x * x) + x * x) * ((x * x + x * x) + x * x) - ((x * (y * y) + x * (y * y) + (x * (y * y) + x * (y * y))) + (x * (y * y) + x * (y * y) + (x * (y * y) + x * (y * y)))) = jx x y := by unfold jx; grind
theorem jy_of (x y : V1) : ((x * x + x * x) + x * x) * ((x * (y * y) + x * (y * y) + (x * (y * y) + x * (y * y))) - jx x y) - ((y * y * (y * y) + y * y * (y * y) + (y * y * (y * y) + y * y * (y * y))) + (y * y * (y * y) + y * y * (y * y) + (y * y * (y * y) + y * y * (y * y)))) = jy x y := by unfold jy; generalize jx x y = k; grind
theorem jz_of (y z : V1) : y * z + y * z = jz y z := by unfold jz; grind
theorem twice1_rel {s : Sp1} {p : Pt V1} (hp : p.on) (h : rel1 s p) : rel1 (twiceG1 s) (p.add p) := by
  obtain ⟨⟨hx, hy, hz⟩, hj⟩ := h
  have ha := half_ok1 hx hx
  have hb := half_ok1 hy hy
  have hc := half_ok1 hb hb
  have hd := half_ok1 hx hb
  have hd2 := add_ok1 hd hd
  have hd4 := add_ok1 hd2 hd2
  have he := add_ok1 (add_ok1 ha ha) ha
  have hee := half_ok1 he he
  have hd8 := add_ok1 hd4 hd4
  have hX := sub_ok1 hee hd8
  have hc2 := add_ok1 hc hc
  have hc4 := add_ok1 hc2 hc2
  have hc8 := add_ok1 hc4 hc4
  have hyz := half_ok1 hy hz
  have hs := sub_ok1 hd4 hX
  have hes := half_ok1 he hs
  have hj' := twice_all hp hj
  have e1 := m1_sub hee hd8
  rw [m1_half he he, m1_add hd4 hd4, m1_add hd2 hd2, m1_add hd hd, m1_half hx hb, m1_half hy hy, m1_add (add_ok1 ha ha) ha, m1_add ha ha, m1_half hx hx, jx_of] at e1
  have e2 := m1_sub hes hc8
  rw [m1_half he hs, m1_sub hd4 hX, e1, m1_add hc4 hc4, m1_add hc2 hc2, m1_add hc hc, m1_half hb hb, m1_add hd2 hd2, m1_add hd hd, m1_half hx hb, m1_half hy hy, m1_add (add_ok1 ha ha) ha, m1_add ha ha, m1_half hx hx, jy_of] at e2
  have e3 := m1_add hyz hyz
  rw [m1_half hy hz, jz_of] at e3
  unfold twiceG1 twiceG1_G
  refine rel1_mk hX (sub_ok1 hes hc8) (add_ok1 hyz hyz) ?_
  rw [e1, e2, e3]
  exact hj'

section
variable {f0 : Fp → Bool} {f1 f2 f4 : Fp → Fp → Fp} {f3 : Sp1 → Sp1} {s t : Sp1}
theorem plusG1_l (h : f0 s.z = true) : plusG1_G f0 f1 f2 f3 f4 s t = t := by unfold plusG1_G; rw [h]
theorem plusG1_r (h : f0 s.z = false) (h2 : f0 t.z = true) : plusG1_G f0 f1 f2 f3 f4 s t = s := by unfold plusG1_G; rw [h, h2]
theorem plusG1_tw (h : f0 s.z = false) (h2 : f0 t.z = false) (h3 : f0 (f2 (f1 t.x (f1 s.z s.z)) (f1 s.x (f1 t.z t.z))) = true) (h4 : f0 (f2 (f1 t.y (f1 (f1 s.z s.z) s.z)) (f1 s.y (f1 (f1 t.z t.z) t.z))) = true) : plusG1_G f0 f1 f2 f3 f4 s t = f3 s := by
  unfold plusG1_G
  rw [h, h2, h3, h4]
theorem plusG1_no (h : f0 s.z = false) (h2 : f0 t.z = false) (h3 : f0 (f2 (f1 t.x (f1 s.z s.z)) (f1 s.x (f1 t.z t.z))) = true) (h4 : f0 (f2 (f1 t.y (f1 (f1 s.z s.z) s.z)) (f1 s.y (f1 (f1 t.z t.z) t.z))) = false) : plusG1_G f0 f1 f2 f3 f4 s t = zeroSp := by
  unfold plusG1_G
  rw [h, h2, h3, h4]
theorem plusG1_all (h : f0 s.z = false) (h2 : f0 t.z = false) (h3 : f0 (f2 (f1 t.x (f1 s.z s.z)) (f1 s.x (f1 t.z t.z))) = false) : plusG1_G f0 f1 f2 f3 f4 s t = ⟨(f2 (f2 (f1 (f2 (f1 t.y (f1 (f1 s.z s.z) s.z)) (f1 s.y (f1 (f1 t.z t.z) t.z))) (f2 (f1 t.y (f1 (f1 s.z s.z) s.z)) (f1 s.y (f1 (f1 t.z t.z) t.z)))) (f1 (f1 (f2 (f1 t.x (f1 s.z s.z)) (f1 s.x (f1 t.z t.z))) (f2 (f1 t.x (f1 s.z s.z)) (f1 s.x (f1 t.z t.z)))) (f2 (f1 t.x (f1 s.z s.z)) (f1 s.x (f1 t.z t.z))))) (f4 (f1 (f1 s.x (f1 t.z t.z)) (f1 (f2 (f1 t.x (f1 s.z s.z)) (f1 s.x (f1 t.z t.z))) (f2 (f1 t.x (f1 s.z s.z)) (f1 s.x (f1 t.z t.z))))) (f1 (f1 s.x (f1 t.z t.z)) (f1 (f2 (f1 t.x (f1 s.z s.z)) (f1 s.x (f1 t.z t.z))) (f2 (f1 t.x (f1 s.z s.z)) (f1 s.x (f1 t.z t.z))))))), (f2 (f1 (f2 (f1 t.y (f1 (f1 s.z s.z) s.z)) (f1 s.y (f1 (f1 t.z t.z) t.z))) (f2 (f1 (f1 s.x (f1 t.z t.z)) (f1 (f2 (f1 t.x (f1 s.z s.z)) (f1 s.x (f1 t.z t.z))) (f2 (f1 t.x (f1 s.z s.z)) (f1 s.x (f1 t.z t.z))))) (f2 (f2 (f1 (f2 (f1 t.y (f1 (f1 s.z s.z) s.z)) (f1 s.y (f1 (f1 t.z t.z) t.z))) (f2 (f1 t.y (f1 (f1 s.z s.z) s.z)) (f1 s.y (f1 (f1 t.z t.z) t.z)))) (f1 (f1 (f2 (f1 t.x (f1 s.z s.z)) (f1 s.x (f1 t.z t.z))) (f2 (f1 t.x (f1 s.z s.z)) (f1 s.x (f1 t.z t.z)))) (f2 (f1 t.x (f1 s.z s.z)) (f1 s.x (f1 t.z t.z))))) (f4 (f1 (f1 s.x (f1 t.z t.z)) (f1 (f2 (f1 t.x (f1 s.z s.z)) (f1 s.x (f1 t.z t.z))) (f2 (f1 t.x (f1 s.z s.z)) (f1 s.x (f1 t.z t.z))))) (f1 (f1 s.x (f1 t.z t.z)) (f1 (f2 (f1 t.x (f1 s.z s.z)) (f1 s.x (f1 t.z t.z))) (f2 (f1 t.x (f1 s.z s.z)) (f1 s.x (f1 t.z t.z))))))))) (f1 (f1 s.y (f1 (f1 t.z t.z) t.z)) (f1 (f1 (f2 (f1 t.x (f1 s.z s.z)) (f1 s.x (f1 t.z t.z))) (f2 (f1 t.x (f1 s.z s.z)) (f1 s.x (f1 t.z t.z)))) (f2 (f1 t.x (f1 s.z s.z)) (f1 s.x (f1 t.z t.z)))))), (f1 (f1 s.z t.z) (f2 (f1 t.x (f1 s.z s.z)) (f1 s.x (f1 t.z t.z))))⟩ := by
  unfold plusG1_G
  rw [h, h2, h3]
end
theorem px_of (u h r : V1) : r * r - h * h * h - (u * (h * h) + u * (h * h)) = r * r - h * h * h - 2 * (u * (h * h)) := by grind
theorem plus1_rel {s t : Sp1} {p q : Pt V1} (hp : p.on) (hq : q.on) (hs : rel1 s p) (ht : rel1 t q) : rel1 (plusG1 s t) (p.add q) := by
  have hs0 := hs
  have ht0 := ht
  obtain ⟨⟨hx, hy, hz⟩, hj⟩ := hs
  obtain ⟨⟨kx, ky, kz⟩, kj⟩ := ht
  unfold plusG1
  by_cases z1 : m1 s.z = 0
  · rw [plusG1_l ((m1_zero hz).2 z1), hj.inf_of z1, inf_add]
    exact ht0
  by_cases z2 : m1 t.z = 0
  · rw [plusG1_r ((m1_nonzero hz).2 z1) ((m1_zero kz).2 z2), kj.inf_of z2, add_inf]
    exact hs0
  have n1 := (m1_nonzero hz).2 z1
  have n2 := (m1_nonzero kz).2 z2
  have zz := half_ok1 hz hz
  have ww := half_ok1 kz kz
  have zzz := half_ok1 zz hz
  have www := half_ok1 ww kz
  have hu := half_ok1 hx ww
  have hv := half_ok1 kx zz
  have ha := half_ok1 hy www
  have hb := half_ok1 ky zzz
  have hh := sub_ok1 hv hu
  have hr := sub_ok1 hb ha
  have eh : m1 (subF (halfF t.x (halfF s.z s.z)) (halfF s.x (halfF t.z t.z))) = m1 t.x * (m1 s.z * m1 s.z) - m1 s.x * (m1 t.z * m1 t.z) := by
    rw [m1_sub hv hu, m1_half kx zz, m1_half hx ww, m1_half hz hz, m1_half kz kz]
  have er : m1 (subF (halfF t.y (halfF (halfF s.z s.z) s.z)) (halfF s.y (halfF (halfF t.z t.z) t.z))) = m1 t.y * (m1 s.z * m1 s.z * m1 s.z) - m1 s.y * (m1 t.z * m1 t.z * m1 t.z) := by
    rw [m1_sub hb ha, m1_half ky zzz, m1_half hy www, m1_half zz hz, m1_half ww kz, m1_half hz hz, m1_half kz kz]
  by_cases h0 : m1 t.x * (m1 s.z * m1 s.z) - m1 s.x * (m1 t.z * m1 t.z) = 0
  · obtain ⟨c1, c2⟩ := plus_same hp hq hj kj z1 z2 h0
    have n3 := (m1_zero hh).2 (by rw [eh]; exact h0)
    by_cases r0 : m1 t.y * (m1 s.z * m1 s.z * m1 s.z) - m1 s.y * (m1 t.z * m1 t.z * m1 t.z) = 0
    · rw [plusG1_tw n1 n2 n3 ((m1_zero hr).2 (by rw [er]; exact r0)), c1 r0]
      exact twice1_rel hp hs0
    · rw [plusG1_no n1 n2 n3 ((m1_nonzero hr).2 (by rw [er]; exact r0)), c2 r0]
      exact rel1_inf
  · rw [plusG1_all n1 n2 ((m1_nonzero hh).2 (by rw [eh]; exact h0))]
    have key := plus_all hp hq hj kj z1 z2 h0
    have h2 := half_ok1 hh hh
    have h3 := half_ok1 h2 hh
    have hw := half_ok1 hu h2
    have hrr := half_ok1 hr hr
    have hw2 := add_ok1 hw hw
    have hrh := sub_ok1 hrr h3
    have hX := sub_ok1 hrh hw2
    have hwx := sub_ok1 hw hX
    have hrw := half_ok1 hr hwx
    have hah := half_ok1 ha h3
    have hst := half_ok1 hz kz
    have eu : m1 (halfF s.x (halfF t.z t.z)) = m1 s.x * (m1 t.z * m1 t.z) := by rw [m1_half hx ww, m1_half kz kz]
    have ea : m1 (halfF s.y (halfF (halfF t.z t.z) t.z)) = m1 s.y * (m1 t.z * m1 t.z * m1 t.z) := by rw [m1_half hy www, m1_half ww kz, m1_half kz kz]
    have e1 := m1_sub hrh hw2
    rw [m1_sub hrr h3, m1_half hr hr, er, m1_half h2 hh, m1_half hh hh, eh, m1_add hw hw, m1_half hu h2, eu, m1_half hh hh, eh, px_of] at e1
    have e1' : _ = px (m1 s.x) (m1 s.y) (m1 s.z) (m1 t.x) (m1 t.y) (m1 t.z) := e1
    have e2 := m1_sub hrw hah
    rw [m1_half hr hwx, m1_sub hw hX, e1', m1_half hu h2, eu, m1_half hh hh, eh, m1_half ha h3, ea, m1_half h2 hh, m1_half hh hh, eh, er] at e2
    have e3 := m1_half hst hh
    rw [m1_half hz kz, eh] at e3
    refine rel1_mk hX (sub_ok1 hrw hah) (half_ok1 hst hh) ?_
    rw [e1', e2, e3]
    exact key

/-! what g1's functions are -/
theorem addG1_G_eq (f0 : Sp1 → Pg1) (f1 : Sp1 → Sp1 → Sp1) (f2 : Pg1 → Sp1) (a b : Pg1) : addG1_G f0 f1 f2 a b = f0 (f1 (f2 a) (f2 b)) := rfl
theorem addG1_eq (a b : Pg1) : addG1 a b = laysG1 (plusG1 (liftG1 a) (liftG1 b)) := by
  unfold addG1
  exact addG1_G_eq laysG1 plusG1 liftG1 a b
theorem add1_pt {a b : Pg1} (ha : a.good) (hb : b.good) : (addG1 a b).good ∧ (addG1 a b).pt = a.pt.add b.pt := by
  rw [addG1_eq]
  exact lays1_rel (add_on ha.2 hb.2) (plus1_rel ha.2 hb.2 (lift1_rel ha) (lift1_rel hb))
theorem neg1_pt {a : Pg1} (ha : a.good) : (negG1 a).good ∧ (negG1 a).pt = a.pt.neg := by
  unfold negG1
  cases hi : a.inf with
  | true =>
    rw [negG1_inf hi, pt1_inf hi]
    exact ⟨ha, rfl⟩
  | false =>
    obtain ⟨hx, hy⟩ := ok_aff1 ha.1 hi
    have ho := neg_on ha.2
    rw [pt1_aff hi] at ho ⊢
    rw [negG1_aff hi]
    exact good1_mk hx (neg_ok1 hy) rfl (v_neg1 hy) ho
theorem rhs1_G_eq (f0 f1 : Fp → Fp → Fp) (x : Fp) : rhsG1_G f0 f1 x = f0 (f1 (f1 x x) x) bFp1 := rfl
theorem rhs1_v {x : Fp} (hx : x.ok) : (rhsG1 x).ok ∧ (rhsG1 x).v = x.v * x.v * x.v + Crv.b := by
  have hb : bFp1.ok ∧ bFp1.v = Crv.b := bFp1_v
  have h2 := mul_ok1 hx hx
  have h3 := mul_ok1 h2 hx
  unfold rhsG1
  rw [rhs1_G_eq]
  refine ⟨add_ok1 h3 hb.1, ?_⟩
  rw [v_add1 h3 hb.1, v_mul1 h2 hx, v_mul1 hx hx, hb.2]
/-- Which points are On. -/
theorem on1_iff (p : Pg1) : onG1 p = true ↔ p.good := by
  unfold onG1
  cases hi : p.inf with
  | true =>
    rw [onG1_inf hi, pg1Eq_iff]
    constructor
    · intro h; rw [h]; exact good_inf1
    · intro h; exact ok_inf1 h.1 hi
  | false =>
    rw [onG1_aff hi, Bool.and_eq_true, Bool.and_eq_true, may1_iff, may1_iff]
    constructor
    · rintro ⟨⟨hx, hy⟩, h⟩
      obtain ⟨r1, r2⟩ := rhs1_v hx
      rw [eq_v1 (mul_ok1 hy hy) r1, v_mul1 hy hy, r2] at h
      exact ⟨.inr ⟨hi, hx, hy⟩, by rw [pt1_aff hi]; exact h⟩
    · intro h
      obtain ⟨hx, hy⟩ := ok_aff1 h.1 hi
      obtain ⟨r1, r2⟩ := rhs1_v hx
      refine ⟨⟨hx, hy⟩, ?_⟩
      rw [eq_v1 (mul_ok1 hy hy) r1, v_mul1 hy hy, r2]
      have := h.2
      rw [pt1_aff hi] at this
      exact this

end Go.Proofs.Ytchlamfdofpolaa
