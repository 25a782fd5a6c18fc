/- Points of g2 by value. -/
import Derived.Test.YtchlamfdofpolaaSa
import Derived.Test.YtchlamfdofpolaaQc
set_option linter.unusedSimpArgs false
set_option linter.unusedVariables false
namespace Go.Proofs.Ytchlamfdofpolaa
open Go.RowKit

/-! the functions' forms -/
/-- The curve's number. -/
def bFp2 : Fp2 := ⟨bFp1, bFp1⟩
theorem bFp2_v : bFp2.ok ∧ bFp2.v = Crv.b := ⟨Fp2.mk_ok bFp1_v.1 bFp1_v.1, Qd.ext' bFp1_v.2 bFp1_v.2⟩
theorem onG2_inf {f0 : Fp2 → Bool} {f1 : Fp2 → Fp2 → Fp2} {f2 : Fp2 → Fp2} {p : Pg2} (h : p.inf = true) : onG2_G f0 f1 f2 p = pg2Eq p infG2 := by unfold onG2_G; rw [h]
theorem onG2_aff {f0 : Fp2 → Bool} {f1 : Fp2 → Fp2 → Fp2} {f2 : Fp2 → Fp2} {p : Pg2} (h : p.inf = false) : onG2_G f0 f1 f2 p = (f0 p.x && f0 p.y && fp2Eq (f1 p.y p.y) (f2 p.x)) := by
  unfold onG2_G
  rw [h]
  cases f0 p.x <;> cases f0 p.y <;> rfl
theorem liftG2_inf {f0 : Fp2 → Fp2} {p : Pg2} (h : p.inf = true) : liftG2_G f0 p = zeroFp6 := by unfold liftG2_G; rw [h]
theorem liftG2_aff {f0 : Fp2 → Fp2} {p : Pg2} (h : p.inf = false) : liftG2_G f0 p = ⟨f0 p.x, f0 p.y, f0 oneFp2⟩ := by unfold liftG2_G; rw [h]
theorem laysG2_no {f0 : Fp2 → Fp2 × Int} {f1 : Fp2 → Fp2} {f2 : Fp2 → Fp2 → Fp2} {s : Fp6} (h : (f0 (f1 s.c2)).2 = 7) : laysG2_G f0 f1 f2 s = infG2 := by
  unfold laysG2_G
  rw [h]
  rfl
theorem laysG2_yes {f0 : Fp2 → Fp2 × Int} {f1 : Fp2 → Fp2} {f2 : Fp2 → Fp2 → Fp2} {s : Fp6} (h : (f0 (f1 s.c2)).2 = 0) : laysG2_G f0 f1 f2 s = ⟨f2 (f1 s.c0) (f2 (f0 (f1 s.c2)).1 (f0 (f1 s.c2)).1), f2 (f1 s.c1) (f2 (f2 (f0 (f1 s.c2)).1 (f0 (f1 s.c2)).1) (f0 (f1 s.c2)).1), false⟩ := by
  unfold laysG2_G
  rw [h]
  rfl
theorem negG2_inf {f0 : Fp2 → Fp2} {p : Pg2} (h : p.inf = true) : negG2_G f0 p = p := by unfold negG2_G; rw [h]
theorem negG2_aff {f0 : Fp2 → Fp2} {p : Pg2} (h : p.inf = false) : negG2_G f0 p = ⟨p.x, f0 p.y, false⟩ := by unfold negG2_G; rw [h]
theorem zeroG2_eq (a : Fp2) : zeroG2 a = fp2Eq a zeroFp2 := by unfold zeroG2 zeroG2_G; rfl
theorem eqG2_eq (a b : Pg2) : eqG2 a b = pg2Eq a b := by unfold eqG2 eqG2_G; rfl

/-! points -/
def Pg2.pt (p : Pg2) : Pt V2 := match p.inf with
  | true => .inf
  | false => .aff p.x.v p.y.v
def Pg2.ok (p : Pg2) : Prop := p = infG2 ∨ (p.inf = false ∧ p.x.ok ∧ p.y.ok)
/-- A point of the curve. -/
def Pg2.good (p : Pg2) : Prop := p.ok ∧ p.pt.on
theorem pt2_inf {p : Pg2} (h : p.inf = true) : p.pt = .inf := by unfold Pg2.pt; rw [h]
theorem pt2_aff {p : Pg2} (h : p.inf = false) : p.pt = .aff p.x.v p.y.v := by unfold Pg2.pt; rw [h]
theorem pt2_infG : infG2.pt = .inf := rfl
theorem good_inf2 : infG2.good := ⟨.inl rfl, trivial⟩
theorem ok_inf2 {p : Pg2} (h : p.ok) (hi : p.inf = true) : p = infG2 := by
  rcases h with h | ⟨h, _⟩
  · exact h
  · rw [hi] at h; cases h
theorem ok_aff2 {p : Pg2} (h : p.ok) (hi : p.inf = false) : p.x.ok ∧ p.y.ok := by
  rcases h with h | ⟨_, h⟩
  · rw [h] at hi; cases hi
  · exact h
theorem pg2_eq {a b : Pg2} (h1 : a.x = b.x) (h2 : a.y = b.y) (h3 : a.inf = b.inf) : a = b := by
  cases a; cases b
  simp_all
theorem pt2_mk (x y : Fp2) : (⟨x, y, false⟩ : Pg2).pt = .aff x.v y.v := rfl
theorem good2_mk {x y : Fp2} {u v : V2} (hx : x.ok) (hy : y.ok) (ex : x.v = u) (ey : y.v = v) (h : (Pt.aff u v).on) : (⟨x, y, false⟩ : Pg2).good ∧ (⟨x, y, false⟩ : Pg2).pt = .aff u v := by
  subst ex ey
  exact ⟨⟨.inr ⟨rfl, hx, hy⟩, h⟩, rfl⟩
theorem pt2_inj {a b : Pg2} (ha : a.ok) (hb : b.ok) (h : a.pt = b.pt) : a = b := by
  cases ea : a.inf with
  | true =>
    cases eb : b.inf with
    | true => rw [ok_inf2 ha ea, ok_inf2 hb eb]
    | false => rw [pt2_inf ea, pt2_aff eb] at h; cases h
  | false =>
    cases eb : b.inf with
    | true => rw [pt2_aff ea, pt2_inf eb] at h; cases h
    | false =>
      rw [pt2_aff ea, pt2_aff eb] at h
      obtain ⟨a1, a2⟩ := ok_aff2 ha ea
      obtain ⟨b1, b2⟩ := ok_aff2 hb eb
      injection h with h1 h2
      exact pg2_eq (Fp2.v_inj a1 b1 h1) (Fp2.v_inj a2 b2 h2) (ea.trans eb.symm)
theorem pg2Eq_pt {a b : Pg2} (ha : a.ok) (hb : b.ok) : pg2Eq a b = true ↔ a.pt = b.pt := ⟨fun h => by rw [(pg2Eq_iff a b).1 h], fun h => (pg2Eq_iff a b).2 (pt2_inj ha hb h)⟩

/-! spots -/
/-- A number that stands times Montgomery's. -/
def m2 (a : Fp2) : V2 := ri2 * a.v
theorem m2_add {a b : Fp2} (ha : a.ok) (hb : b.ok) : m2 (addF2 a b) = m2 a + m2 b := by unfold m2; rw [v_add2 ha hb]; exact CR.dist _ _ _
theorem m2_sub {a b : Fp2} (ha : a.ok) (hb : b.ok) : m2 (subF2 a b) = m2 a - m2 b := by unfold m2; rw [v_sub2 ha hb]; grind
theorem m2_half {a b : Fp2} (ha : a.ok) (hb : b.ok) : m2 (halfF2 a b) = m2 a * m2 b := by unfold m2; rw [v_half2 ha hb]; grind
theorem m2_whole {a : Fp2} (ha : a.ok) : m2 (wholeF2 a) = a.v := by
  unfold m2
  rw [v_whole2 ha]
  have := rv_ri2
  grind
theorem v_low_m2 {a : Fp2} (ha : a.ok) : (lowF2 a).v = m2 a := v_low2 ha
theorem ri_ne2 : ri2 ≠ 0 := fun e => one_ne' (K := V2) (by rw [← rv_ri2, e]; exact CR.mul_zero _)
theorem m2_zero {a : Fp2} (ha : a.ok) : zeroG2 a = true ↔ m2 a = 0 := by
  rw [zeroG2_eq, fp2Eq_v ha zero_ok2, v_zero2]
  unfold m2
  constructor
  · intro h; rw [h]; exact CR.mul_zero _
  · intro h; exact (mul_eq_zero' h).resolve_left ri_ne2
theorem m2_nonzero {a : Fp2} (ha : a.ok) : zeroG2 a = false ↔ m2 a ≠ 0 := by rw [← Bool.not_eq_true, m2_zero ha]
/-- A spot of a point. -/
def rel2 (s : Fp6) (p : Pt V2) : Prop := (s.c0.ok ∧ s.c1.ok ∧ s.c2.ok) ∧ Jc (m2 s.c0) (m2 s.c1) (m2 s.c2) p
theorem rel2_mk {x y z : Fp2} {p : Pt V2} (hx : x.ok) (hy : y.ok) (hz : z.ok) (h : Jc (m2 x) (m2 y) (m2 z) p) : rel2 ⟨x, y, z⟩ p := ⟨⟨hx, hy, hz⟩, h⟩
theorem rel2_inf : rel2 zeroFp6 .inf := ⟨⟨zero_ok2, zero_ok2, zero_ok2⟩, by
  show m2 zeroFp2 = 0
  unfold m2
  rw [v_zero2]
  exact CR.mul_zero _⟩
theorem lift2_rel {p : Pg2} (h : p.good) : rel2 (liftG2 p) p.pt := by
  unfold liftG2
  cases hi : p.inf with
  | true => rw [liftG2_inf hi, pt2_inf hi]; exact rel2_inf
  | false =>
    obtain ⟨hx, hy⟩ := ok_aff2 h.1 hi
    rw [liftG2_aff hi, pt2_aff hi]
    refine rel2_mk (whole_ok2 hx) (whole_ok2 hy) (whole_ok2 one_ok2) ?_
    rw [m2_whole hx, m2_whole hy, m2_whole one_ok2, v_one2]
    exact ⟨one_ne', by grind, by grind⟩
theorem lays2_rel {s : Fp6} {p : Pt V2} (hp : p.on) (h : rel2 s p) : (laysG2 s).good ∧ (laysG2 s).pt = p := by
  obtain ⟨⟨hx, hy, hz⟩, hj⟩ := h
  obtain ⟨i1, i2⟩ := inv_v2' (low_ok2 hz)
  rw [v_low_m2 hz] at i1 i2
  unfold laysG2
  by_cases h0 : m2 s.c2 = 0
  · rw [laysG2_no (i1 h0), hj.inf_of h0]
    exact ⟨good_inf2, rfl⟩
  · obtain ⟨j1, j2, j3⟩ := i2 h0
    obtain ⟨x, y, rfl, e1, e2⟩ := hj.aff_of h0
    rw [laysG2_yes j1]
    have kk := mul_ok2 j2 j2
    have kkk := mul_ok2 kk j2
    have lx := low_ok2 hx
    have ly := low_ok2 hy
    have ex : (mulF2 (lowF2 s.c0) (mulF2 (invF2 (lowF2 s.c2)).1 (invF2 (lowF2 s.c2)).1)).v = x := by
      rw [v_mul2 lx kk, v_mul2 j2 j2, v_low_m2 hx, j3, e1]
      exact jc_inv h0
    have ey : (mulF2 (lowF2 s.c1) (mulF2 (mulF2 (invF2 (lowF2 s.c2)).1 (invF2 (lowF2 s.c2)).1) (invF2 (lowF2 s.c2)).1)).v = y := by
      rw [v_mul2 ly kkk, v_mul2 kk j2, v_mul2 j2 j2, v_low_m2 hy, j3, e2]
      exact jc_inv3 h0
    exact good2_mk (mul_ok2 lx kk) (mul_ok2 ly kkk) ex ey hp
theorem jx_of2 (x y : V2) : ((x * x + x * x) + x * x) * ((x * x + x * x) + x * x) - ((x * (y * y) + x * (y * y) + (x * (y * y) + x * (y * y))) + (x * (y * y) + x * (y * y) + (x * (y * y) + x * (y * y)))) = jx x y := by unfold jx; grind
theorem jy_of2 (x y : V2) : ((x * x + x * x) + x * x) * ((x * (y * y) + x * (y * y) + (x * (y * y) + x * (y * y))) - jx x y) - ((y * y * (y * y) + y * y * (y * y) + (y * y * (y * y) + y * y * (y * y))) + (y * y * (y * y) + y * y * (y * y) + (y * y * (y * y) + y * y * (y * y)))) = jy x y := by unfold jy; generalize jx x y = k; grind
theorem jz_of2 (y z : V2) : y * z + y * z = jz y z := by unfold jz; grind
theorem twice2_rel {s : Fp6} {p : Pt V2} (hp : p.on) (h : rel2 s p) : rel2 (twiceG2 s) (p.add p) := by
  obtain ⟨⟨hx, hy, hz⟩, hj⟩ := h
  have ha := half_ok2 hx hx
  have hb := half_ok2 hy hy
  have hc := half_ok2 hb hb
  have hd := half_ok2 hx hb
  have hd2 := add_ok2 hd hd
  have hd4 := add_ok2 hd2 hd2
  have he := add_ok2 (add_ok2 ha ha) ha
  have hee := half_ok2 he he
  have hd8 := add_ok2 hd4 hd4
  have hX := sub_ok2 hee hd8
  have hc2 := add_ok2 hc hc
  have hc4 := add_ok2 hc2 hc2
  have hc8 := add_ok2 hc4 hc4
  have hyz := half_ok2 hy hz
  have hs := sub_ok2 hd4 hX
  have hes := half_ok2 he hs
  have hj' := twice_all hp hj
  have e1 := m2_sub hee hd8
  rw [m2_half he he, m2_add hd4 hd4, m2_add hd2 hd2, m2_add hd hd, m2_half hx hb, m2_half hy hy, m2_add (add_ok2 ha ha) ha, m2_add ha ha, m2_half hx hx, jx_of2] at e1
  have e2 := m2_sub hes hc8
  rw [m2_half he hs, m2_sub hd4 hX, e1, m2_add hc4 hc4, m2_add hc2 hc2, m2_add hc hc, m2_half hb hb, m2_add hd2 hd2, m2_add hd hd, m2_half hx hb, m2_half hy hy, m2_add (add_ok2 ha ha) ha, m2_add ha ha, m2_half hx hx, jy_of2] at e2
  have e3 := m2_add hyz hyz
  rw [m2_half hy hz, jz_of2] at e3
  unfold twiceG2 twiceG2_G
  refine rel2_mk hX (sub_ok2 hes hc8) (add_ok2 hyz hyz) ?_
  rw [e1, e2, e3]
  exact hj'

section
variable {f0 : Fp2 → Bool} {f1 f2 f4 : Fp2 → Fp2 → Fp2} {f3 : Fp6 → Fp6} {s t : Fp6}
theorem plusG2_l (h : f0 s.c2 = true) : plusG2_G f0 f1 f2 f3 f4 s t = t := by unfold plusG2_G; rw [h]
theorem plusG2_r (h : f0 s.c2 = false) (h2 : f0 t.c2 = true) : plusG2_G f0 f1 f2 f3 f4 s t = s := by unfold plusG2_G; rw [h, h2]
theorem plusG2_tw (h : f0 s.c2 = false) (h2 : f0 t.c2 = false) (h3 : f0 (f2 (f1 t.c0 (f1 s.c2 s.c2)) (f1 s.c0 (f1 t.c2 t.c2))) = true) (h4 : f0 (f2 (f1 t.c1 (f1 (f1 s.c2 s.c2) s.c2)) (f1 s.c1 (f1 (f1 t.c2 t.c2) t.c2))) = true) : plusG2_G f0 f1 f2 f3 f4 s t = f3 s := by
  unfold plusG2_G
  rw [h, h2, h3, h4]
theorem plusG2_no (h : f0 s.c2 = false) (h2 : f0 t.c2 = false) (h3 : f0 (f2 (f1 t.c0 (f1 s.c2 s.c2)) (f1 s.c0 (f1 t.c2 t.c2))) = true) (h4 : f0 (f2 (f1 t.c1 (f1 (f1 s.c2 s.c2) s.c2)) (f1 s.c1 (f1 (f1 t.c2 t.c2) t.c2))) = false) : plusG2_G f0 f1 f2 f3 f4 s t = zeroFp6 := by
  unfold plusG2_G
  rw [h, h2, h3, h4]
theorem plusG2_all (h : f0 s.c2 = false) (h2 : f0 t.c2 = false) (h3 : f0 (f2 (f1 t.c0 (f1 s.c2 s.c2)) (f1 s.c0 (f1 t.c2 t.c2))) = false) : plusG2_G f0 f1 f2 f3 f4 s t = ⟨(f2 (f2 (f1 (f2 (f1 t.c1 (f1 (f1 s.c2 s.c2) s.c2)) (f1 s.c1 (f1 (f1 t.c2 t.c2) t.c2))) (f2 (f1 t.c1 (f1 (f1 s.c2 s.c2) s.c2)) (f1 s.c1 (f1 (f1 t.c2 t.c2) t.c2)))) (f1 (f1 (f2 (f1 t.c0 (f1 s.c2 s.c2)) (f1 s.c0 (f1 t.c2 t.c2))) (f2 (f1 t.c0 (f1 s.c2 s.c2)) (f1 s.c0 (f1 t.c2 t.c2)))) (f2 (f1 t.c0 (f1 s.c2 s.c2)) (f1 s.c0 (f1 t.c2 t.c2))))) (f4 (f1 (f1 s.c0 (f1 t.c2 t.c2)) (f1 (f2 (f1 t.c0 (f1 s.c2 s.c2)) (f1 s.c0 (f1 t.c2 t.c2))) (f2 (f1 t.c0 (f1 s.c2 s.c2)) (f1 s.c0 (f1 t.c2 t.c2))))) (f1 (f1 s.c0 (f1 t.c2 t.c2)) (f1 (f2 (f1 t.c0 (f1 s.c2 s.c2)) (f1 s.c0 (f1 t.c2 t.c2))) (f2 (f1 t.c0 (f1 s.c2 s.c2)) (f1 s.c0 (f1 t.c2 t.c2))))))), (f2 (f1 (f2 (f1 t.c1 (f1 (f1 s.c2 s.c2) s.c2)) (f1 s.c1 (f1 (f1 t.c2 t.c2) t.c2))) (f2 (f1 (f1 s.c0 (f1 t.c2 t.c2)) (f1 (f2 (f1 t.c0 (f1 s.c2 s.c2)) (f1 s.c0 (f1 t.c2 t.c2))) (f2 (f1 t.c0 (f1 s.c2 s.c2)) (f1 s.c0 (f1 t.c2 t.c2))))) (f2 (f2 (f1 (f2 (f1 t.c1 (f1 (f1 s.c2 s.c2) s.c2)) (f1 s.c1 (f1 (f1 t.c2 t.c2) t.c2))) (f2 (f1 t.c1 (f1 (f1 s.c2 s.c2) s.c2)) (f1 s.c1 (f1 (f1 t.c2 t.c2) t.c2)))) (f1 (f1 (f2 (f1 t.c0 (f1 s.c2 s.c2)) (f1 s.c0 (f1 t.c2 t.c2))) (f2 (f1 t.c0 (f1 s.c2 s.c2)) (f1 s.c0 (f1 t.c2 t.c2)))) (f2 (f1 t.c0 (f1 s.c2 s.c2)) (f1 s.c0 (f1 t.c2 t.c2))))) (f4 (f1 (f1 s.c0 (f1 t.c2 t.c2)) (f1 (f2 (f1 t.c0 (f1 s.c2 s.c2)) (f1 s.c0 (f1 t.c2 t.c2))) (f2 (f1 t.c0 (f1 s.c2 s.c2)) (f1 s.c0 (f1 t.c2 t.c2))))) (f1 (f1 s.c0 (f1 t.c2 t.c2)) (f1 (f2 (f1 t.c0 (f1 s.c2 s.c2)) (f1 s.c0 (f1 t.c2 t.c2))) (f2 (f1 t.c0 (f1 s.c2 s.c2)) (f1 s.c0 (f1 t.c2 t.c2))))))))) (f1 (f1 s.c1 (f1 (f1 t.c2 t.c2) t.c2)) (f1 (f1 (f2 (f1 t.c0 (f1 s.c2 s.c2)) (f1 s.c0 (f1 t.c2 t.c2))) (f2 (f1 t.c0 (f1 s.c2 s.c2)) (f1 s.c0 (f1 t.c2 t.c2)))) (f2 (f1 t.c0 (f1 s.c2 s.c2)) (f1 s.c0 (f1 t.c2 t.c2)))))), (f1 (f1 s.c2 t.c2) (f2 (f1 t.c0 (f1 s.c2 s.c2)) (f1 s.c0 (f1 t.c2 t.c2))))⟩ := by
  unfold plusG2_G
  rw [h, h2, h3]
end
theorem px_of2 (u h r : V2) : r * r - h * h * h - (u * (h * h) + u * (h * h)) = r * r - h * h * h - 2 * (u * (h * h)) := by grind
theorem plus2_rel {s t : Fp6} {p q : Pt V2} (hp : p.on) (hq : q.on) (hs : rel2 s p) (ht : rel2 t q) : rel2 (plusG2 s t) (p.add q) := by
  have hs0 := hs
  have ht0 := ht
  obtain ⟨⟨hx, hy, hz⟩, hj⟩ := hs
  obtain ⟨⟨kx, ky, kz⟩, kj⟩ := ht
  unfold plusG2
  by_cases z1 : m2 s.c2 = 0
  · rw [plusG2_l ((m2_zero hz).2 z1), hj.inf_of z1, inf_add]
    exact ht0
  by_cases z2 : m2 t.c2 = 0
  · rw [plusG2_r ((m2_nonzero hz).2 z1) ((m2_zero kz).2 z2), kj.inf_of z2, add_inf]
    exact hs0
  have n1 := (m2_nonzero hz).2 z1
  have n2 := (m2_nonzero kz).2 z2
  have zz := half_ok2 hz hz
  have ww := half_ok2 kz kz
  have zzz := half_ok2 zz hz
  have www := half_ok2 ww kz
  have hu := half_ok2 hx ww
  have hv := half_ok2 kx zz
  have ha := half_ok2 hy www
  have hb := half_ok2 ky zzz
  have hh := sub_ok2 hv hu
  have hr := sub_ok2 hb ha
  have eh : m2 (subF2 (halfF2 t.c0 (halfF2 s.c2 s.c2)) (halfF2 s.c0 (halfF2 t.c2 t.c2))) = m2 t.c0 * (m2 s.c2 * m2 s.c2) - m2 s.c0 * (m2 t.c2 * m2 t.c2) := by
    rw [m2_sub hv hu, m2_half kx zz, m2_half hx ww, m2_half hz hz, m2_half kz kz]
  have er : m2 (subF2 (halfF2 t.c1 (halfF2 (halfF2 s.c2 s.c2) s.c2)) (halfF2 s.c1 (halfF2 (halfF2 t.c2 t.c2) t.c2))) = m2 t.c1 * (m2 s.c2 * m2 s.c2 * m2 s.c2) - m2 s.c1 * (m2 t.c2 * m2 t.c2 * m2 t.c2) := by
    rw [m2_sub hb ha, m2_half ky zzz, m2_half hy www, m2_half zz hz, m2_half ww kz, m2_half hz hz, m2_half kz kz]
  by_cases h0 : m2 t.c0 * (m2 s.c2 * m2 s.c2) - m2 s.c0 * (m2 t.c2 * m2 t.c2) = 0
  · obtain ⟨c1, c2⟩ := plus_same hp hq hj kj z1 z2 h0
    have n3 := (m2_zero hh).2 (by rw [eh]; exact h0)
    by_cases r0 : m2 t.c1 * (m2 s.c2 * m2 s.c2 * m2 s.c2) - m2 s.c1 * (m2 t.c2 * m2 t.c2 * m2 t.c2) = 0
    · rw [plusG2_tw n1 n2 n3 ((m2_zero hr).2 (by rw [er]; exact r0)), c1 r0]
      exact twice2_rel hp hs0
    · rw [plusG2_no n1 n2 n3 ((m2_nonzero hr).2 (by rw [er]; exact r0)), c2 r0]
      exact rel2_inf
  · rw [plusG2_all n1 n2 ((m2_nonzero hh).2 (by rw [eh]; exact h0))]
    have key := plus_all hp hq hj kj z1 z2 h0
    have h2 := half_ok2 hh hh
    have h3 := half_ok2 h2 hh
    have hw := half_ok2 hu h2
    have hrr := half_ok2 hr hr
    have hw2 := add_ok2 hw hw
    have hrh := sub_ok2 hrr h3
    have hX := sub_ok2 hrh hw2
    have hwx := sub_ok2 hw hX
    have hrw := half_ok2 hr hwx
    have hah := half_ok2 ha h3
    have hst := half_ok2 hz kz
    have eu : m2 (halfF2 s.c0 (halfF2 t.c2 t.c2)) = m2 s.c0 * (m2 t.c2 * m2 t.c2) := by rw [m2_half hx ww, m2_half kz kz]
    have ea : m2 (halfF2 s.c1 (halfF2 (halfF2 t.c2 t.c2) t.c2)) = m2 s.c1 * (m2 t.c2 * m2 t.c2 * m2 t.c2) := by rw [m2_half hy www, m2_half ww kz, m2_half kz kz]
    have e1 := m2_sub hrh hw2
    rw [m2_sub hrr h3, m2_half hr hr, er, m2_half h2 hh, m2_half hh hh, eh, m2_add hw hw, m2_half hu h2, eu, m2_half hh hh, eh, px_of2] at e1
    have e1' : _ = px (m2 s.c0) (m2 s.c1) (m2 s.c2) (m2 t.c0) (m2 t.c1) (m2 t.c2) := e1
    have e2 := m2_sub hrw hah
    rw [m2_half hr hwx, m2_sub hw hX, e1', m2_half hu h2, eu, m2_half hh hh, eh, m2_half ha h3, ea, m2_half h2 hh, m2_half hh hh, eh, er] at e2
    have e3 := m2_half hst hh
    rw [m2_half hz kz, eh] at e3
    refine rel2_mk hX (sub_ok2 hrw hah) (half_ok2 hst hh) ?_
    rw [e1', e2, e3]
    exact key

/-! what g1's functions are -/
theorem addG2_G_eq (f0 : Fp6 → Pg2) (f1 : Fp6 → Fp6 → Fp6) (f2 : Pg2 → Fp6) (a b : Pg2) : addG2_G f0 f1 f2 a b = f0 (f1 (f2 a) (f2 b)) := rfl
theorem addG2_eq (a b : Pg2) : addG2 a b = laysG2 (plusG2 (liftG2 a) (liftG2 b)) := by
  unfold addG2
  exact addG2_G_eq laysG2 plusG2 liftG2 a b
theorem add2_pt {a b : Pg2} (ha : a.good) (hb : b.good) : (addG2 a b).good ∧ (addG2 a b).pt = a.pt.add b.pt := by
  rw [addG2_eq]
  exact lays2_rel (add_on ha.2 hb.2) (plus2_rel ha.2 hb.2 (lift2_rel ha) (lift2_rel hb))
theorem neg2_pt {a : Pg2} (ha : a.good) : (negG2 a).good ∧ (negG2 a).pt = a.pt.neg := by
  unfold negG2
  cases hi : a.inf with
  | true =>
    rw [negG2_inf hi, pt2_inf hi]
    exact ⟨ha, rfl⟩
  | false =>
    obtain ⟨hx, hy⟩ := ok_aff2 ha.1 hi
    have ho := neg_on ha.2
    rw [pt2_aff hi] at ho ⊢
    rw [negG2_aff hi]
    exact good2_mk hx (neg_ok2 hy) rfl (v_neg2 hy) ho
theorem rhs2_G_eq (f0 f1 : Fp2 → Fp2 → Fp2) (x : Fp2) : rhsG2_G f0 f1 x = f0 (f1 (f1 x x) x) bFp2 := rfl
theorem rhs2_v {x : Fp2} (hx : x.ok) : (rhsG2 x).ok ∧ (rhsG2 x).v = x.v * x.v * x.v + Crv.b := by
  have hb : bFp2.ok ∧ bFp2.v = Crv.b := bFp2_v
  have h2 := mul_ok2 hx hx
  have h3 := mul_ok2 h2 hx
  unfold rhsG2
  rw [rhs2_G_eq]
  refine ⟨add_ok2 h3 hb.1, ?_⟩
  rw [v_add2 h3 hb.1, v_mul2 h2 hx, v_mul2 hx hx, hb.2]
/-- Which points are On. -/
theorem on2_iff (p : Pg2) : onG2 p = true ↔ p.good := by
  unfold onG2
  cases hi : p.inf with
  | true =>
    rw [onG2_inf hi, pg2Eq_iff]
    constructor
    · intro h; rw [h]; exact good_inf2
    · intro h; exact ok_inf2 h.1 hi
  | false =>
    rw [onG2_aff hi, Bool.and_eq_true, Bool.and_eq_true, may2_iff, may2_iff]
    constructor
    · rintro ⟨⟨hx, hy⟩, h⟩
      obtain ⟨r1, r2⟩ := rhs2_v hx
      rw [fp2Eq_v (mul_ok2 hy hy) r1, v_mul2 hy hy, r2] at h
      exact ⟨.inr ⟨hi, hx, hy⟩, by rw [pt2_aff hi]; exact h⟩
    · intro h
      obtain ⟨hx, hy⟩ := ok_aff2 h.1 hi
      obtain ⟨r1, r2⟩ := rhs2_v hx
      refine ⟨⟨hx, hy⟩, ?_⟩
      rw [fp2Eq_v (mul_ok2 hy hy) r1, v_mul2 hy hy, r2]
      have := h.2
      rw [pt2_aff hi] at this
      exact this

end Go.Proofs.Ytchlamfdofpolaa
