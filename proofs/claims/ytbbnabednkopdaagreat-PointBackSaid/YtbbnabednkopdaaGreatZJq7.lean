/- Texts of the proof, joined. -/
import Derived.Test.YtbbnabednkopdaaGreatZJq6
set_option linter.unusedSimpArgs false
set_option linter.unusedVariables false
namespace Go.Proofs.YtbbnabednkopdaaGreat
open Go.RowKit
def bFp2 : Fp2 := ⟨bFp1, bFp1⟩
theorem bFp2_v : bFp2.ok ∧ bFp2.v = Crv.b := ⟨Fp2.mk_ok bFp1_v.1 bFp1_v.1, Qd.ext' bFp1_v.2 bFp1_v.2⟩
theorem onG2_inf {f0 : Fp2 → Bool} {f1 : Fp2 → Fp2 → Fp2} {f2 : Fp2 → Fp2} {p : Pg2} (h : p.inf = true) : onG2_G f0 f1 f2 p = pg2Eq p infG2 := by unfold onG2_G; rw [h]
theorem onG2_aff {f0 : Fp2 → Bool} {f1 : Fp2 → Fp2 → Fp2} {f2 : Fp2 → Fp2} {p : Pg2} (h : p.inf = false) : onG2_G f0 f1 f2 p = (f0 p.x && f0 p.y && fp2Eq (f1 p.y p.y) (f2 p.x)) := by
  unfold onG2_G
  rw [h]
  cases f0 p.x <;> cases f0 p.y <;> rfl
theorem liftG2_inf {f0 : Fp2 → Fp2} {p : Pg2} (h : p.inf = true) : liftG2_G f0 p = zeroFp6 := by unfold liftG2_G; rw [h]
theorem liftG2_aff {f0 : Fp2 → Fp2} {p : Pg2} (h : p.inf = false) : liftG2_G f0 p = ⟨f0 p.x, f0 p.y, f0 oneFp2⟩ := by unfold liftG2_G; rw [h]
theorem negG2_inf {f0 : Fp2 → Fp2} {p : Pg2} (h : p.inf = true) : negG2_G f0 p = p := by unfold negG2_G; rw [h]
theorem negG2_aff {f0 : Fp2 → Fp2} {p : Pg2} (h : p.inf = false) : negG2_G f0 p = ⟨p.x, f0 p.y, false⟩ := by unfold negG2_G; rw [h]
theorem zeroG2_eq (a : Fp2) : zeroG2 a = fp2Eq a zeroFp2 := by unfold zeroG2 zeroG2_G; rfl
def Pg2.pt (p : Pg2) : Pt V2 := match p.inf with
  | true => .inf
  | false => .aff p.x.v p.y.v
def Pg2.ok (p : Pg2) : Prop := p = infG2 ∨ (p.inf = false ∧ p.x.ok ∧ p.y.ok)
def Pg2.good (p : Pg2) : Prop := p.ok ∧ p.pt.on
theorem pt2_inf {p : Pg2} (h : p.inf = true) : p.pt = .inf := by unfold Pg2.pt; rw [h]
theorem pt2_aff {p : Pg2} (h : p.inf = false) : p.pt = .aff p.x.v p.y.v := by unfold Pg2.pt; rw [h]
theorem good_inf2 : infG2.good := ⟨.inl rfl, trivial⟩
theorem ok_inf2 {p : Pg2} (h : p.ok) (hi : p.inf = true) : p = infG2 := by
  rcases h with h | ⟨h, _⟩
  · exact h
  · rw [hi] at h; cases h
theorem ok_aff2 {p : Pg2} (h : p.ok) (hi : p.inf = false) : p.x.ok ∧ p.y.ok := by
  rcases h with h | ⟨_, h⟩
  · rw [h] at hi; cases hi
  · exact h
theorem good2_mk {x y : Fp2} {u v : V2} (hx : x.ok) (hy : y.ok) (ex : x.v = u) (ey : y.v = v) (h : (Pt.aff u v).on) : (⟨x, y, false⟩ : Pg2).good ∧ (⟨x, y, false⟩ : Pg2).pt = .aff u v := by
  subst ex ey
  exact ⟨⟨.inr ⟨rfl, hx, hy⟩, h⟩, rfl⟩
def m2 (a : Fp2) : V2 := ri2 * a.v
theorem m2_add {a b : Fp2} (ha : a.ok) (hb : b.ok) : m2 (addF2 a b) = m2 a + m2 b := by unfold m2; rw [v_add2 ha hb]; exact CR.dist _ _ _
theorem m2_sub {a b : Fp2} (ha : a.ok) (hb : b.ok) : m2 (subF2 a b) = m2 a - m2 b := by unfold m2; rw [v_sub2 ha hb]; grind
theorem m2_half {a b : Fp2} (ha : a.ok) (hb : b.ok) : m2 (halfF2 a b) = m2 a * m2 b := by unfold m2; rw [v_half2 ha hb]; grind
theorem m2_whole {a : Fp2} (ha : a.ok) : m2 (wholeF2 a) = a.v := by
  unfold m2
  rw [v_whole2 ha]
  have := rv_ri2
  grind
theorem ri_ne2 : ri2 ≠ 0 := fun e => one_ne' (K := V2) (by rw [← rv_ri2, e]; exact CR.mul_zero _)
theorem m2_zero {a : Fp2} (ha : a.ok) : zeroG2 a = true ↔ m2 a = 0 := by
  rw [zeroG2_eq, fp2Eq_v ha zero_ok2, v_zero2]
  unfold m2
  constructor
  · intro h; rw [h]; exact CR.mul_zero _
  · intro h; exact (mul_eq_zero' h).resolve_left ri_ne2
theorem m2_nonzero {a : Fp2} (ha : a.ok) : zeroG2 a = false ↔ m2 a ≠ 0 := by rw [← Bool.not_eq_true, m2_zero ha]
def rel2 (s : Fp6) (p : Pt V2) : Prop := (s.c0.ok ∧ s.c1.ok ∧ s.c2.ok) ∧ Jc (m2 s.c0) (m2 s.c1) (m2 s.c2) p
theorem rel2_mk {x y z : Fp2} {p : Pt V2} (hx : x.ok) (hy : y.ok) (hz : z.ok) (h : Jc (m2 x) (m2 y) (m2 z) p) : rel2 ⟨x, y, z⟩ p := ⟨⟨hx, hy, hz⟩, h⟩
theorem rel2_inf : rel2 zeroFp6 .inf := ⟨⟨zero_ok2, zero_ok2, zero_ok2⟩, by
  show m2 zeroFp2 = 0
  unfold m2
  rw [v_zero2]
  exact CR.mul_zero _⟩
theorem lift2_rel {p : Pg2} (h : p.good) : rel2 (liftG2 p) p.pt := by
  unfold liftG2
  cases hi : p.inf with
  | true => rw [liftG2_inf hi, pt2_inf hi]; exact rel2_inf
  | false =>
    obtain ⟨hx, hy⟩ := ok_aff2 h.1 hi
    rw [liftG2_aff hi, pt2_aff hi]
    refine rel2_mk (whole_ok2 hx) (whole_ok2 hy) (whole_ok2 one_ok2) ?_
    rw [m2_whole hx, m2_whole hy, m2_whole one_ok2, v_one2]
    exact ⟨one_ne', by grind, by grind⟩
theorem jx_of2 (x y : V2) : ((x * x + x * x) + x * x) * ((x * x + x * x) + x * x) - ((x * (y * y) + x * (y * y) + (x * (y * y) + x * (y * y))) + (x * (y * y) + x * (y * y) + (x * (y * y) + x * (y * y)))) = jx x y := by unfold jx; grind
theorem jy_of2 (x y : V2) : ((x * x + x * x) + x * x) * ((x * (y * y) + x * (y * y) + (x * (y * y) + x * (y * y))) - jx x y) - ((y * y * (y * y) + y * y * (y * y) + (y * y * (y * y) + y * y * (y * y))) + (y * y * (y * y) + y * y * (y * y) + (y * y * (y * y) + y * y * (y * y)))) = jy x y := by unfold jy; generalize jx x y = k; grind
theorem jz_of2 (y z : V2) : y * z + y * z = jz y z := by unfold jz; grind
theorem twice2_rel {s : Fp6} {p : Pt V2} (hp : p.on) (h : rel2 s p) : rel2 (twiceG2 s) (p.add p) := by
  obtain ⟨⟨hx, hy, hz⟩, hj⟩ := h
  have ha := half_ok2 hx hx
  have hb := half_ok2 hy hy
  have hc := half_ok2 hb hb
  have hd := half_ok2 hx hb
  have hd2 := add_ok2 hd hd
  have hd4 := add_ok2 hd2 hd2
  have he := add_ok2 (add_ok2 ha ha) ha
  have hee := half_ok2 he he
  have hd8 := add_ok2 hd4 hd4
  have hX := sub_ok2 hee hd8
  have hc2 := add_ok2 hc hc
  have hc4 := add_ok2 hc2 hc2
  have hc8 := add_ok2 hc4 hc4
  have hyz := half_ok2 hy hz
  have hs := sub_ok2 hd4 hX
  have hes := half_ok2 he hs
  have hj' := twice_all hp hj
  have e1 := m2_sub hee hd8
  rw [m2_half he he, m2_add hd4 hd4, m2_add hd2 hd2, m2_add hd hd, m2_half hx hb, m2_half hy hy, m2_add (add_ok2 ha ha) ha, m2_add ha ha, m2_half hx hx, jx_of2] at e1
  have e2 := m2_sub hes hc8
  rw [m2_half he hs, m2_sub hd4 hX, e1, m2_add hc4 hc4, m2_add hc2 hc2, m2_add hc hc, m2_half hb hb, m2_add hd2 hd2, m2_add hd hd, m2_half hx hb, m2_half hy hy, m2_add (add_ok2 ha ha) ha, m2_add ha ha, m2_half hx hx, jy_of2] at e2
  have e3 := m2_add hyz hyz
  rw [m2_half hy hz, jz_of2] at e3
  unfold twiceG2 twiceG2_G
  refine rel2_mk hX (sub_ok2 hes hc8) (add_ok2 hyz hyz) ?_
  rw [e1, e2, e3]
  exact hj'
section
variable {f0 : Fp2 → Bool} {f1 f2 f4 : Fp2 → Fp2 → Fp2} {f3 : Fp6 → Fp6} {s t : Fp6}
theorem plusG2_l (h : f0 s.c2 = true) : plusG2_G f0 f1 f2 f3 f4 s t = t := by unfold plusG2_G; rw [h]
theorem plusG2_r (h : f0 s.c2 = false) (h2 : f0 t.c2 = true) : plusG2_G f0 f1 f2 f3 f4 s t = s := by unfold plusG2_G; rw [h, h2]
theorem plusG2_tw (h : f0 s.c2 = false) (h2 : f0 t.c2 = false) (h3 : f0 (f2 (f1 t.c0 (f1 s.c2 s.c2)) (f1 s.c0 (f1 t.c2 t.c2))) = true) (h4 : f0 (f2 (f1 t.c1 (f1 (f1 s.c2 s.c2) s.c2)) (f1 s.c1 (f1 (f1 t.c2 t.c2) t.c2))) = true) : plusG2_G f0 f1 f2 f3 f4 s t = f3 s := by
  unfold plusG2_G
  rw [h, h2, h3, h4]
theorem plusG2_no (h : f0 s.c2 = false) (h2 : f0 t.c2 = false) (h3 : f0 (f2 (f1 t.c0 (f1 s.c2 s.c2)) (f1 s.c0 (f1 t.c2 t.c2))) = true) (h4 : f0 (f2 (f1 t.c1 (f1 (f1 s.c2 s.c2) s.c2)) (f1 s.c1 (f1 (f1 t.c2 t.c2) t.c2))) = false) : plusG2_G f0 f1 f2 f3 f4 s t = zeroFp6 := by
  unfold plusG2_G
  rw [h, h2, h3, h4]
theorem plusG2_all (h : f0 s.c2 = false) (h2 : f0 t.c2 = false) (h3 : f0 (f2 (f1 t.c0 (f1 s.c2 s.c2)) (f1 s.c0 (f1 t.c2 t.c2))) = false) : plusG2_G f0 f1 f2 f3 f4 s t = ⟨(f2 (f2 (f1 (f2 (f1 t.c1 (f1 (f1 s.c2 s.c2) s.c2)) (f1 s.c1 (f1 (f1 t.c2 t.c2) t.c2))) (f2 (f1 t.c1 (f1 (f1 s.c2 s.c2) s.c2)) (f1 s.c1 (f1 (f1 t.c2 t.c2) t.c2)))) (f1 (f1 (f2 (f1 t.c0 (f1 s.c2 s.c2)) (f1 s.c0 (f1 t.c2 t.c2))) (f2 (f1 t.c0 (f1 s.c2 s.c2)) (f1 s.c0 (f1 t.c2 t.c2)))) (f2 (f1 t.c0 (f1 s.c2 s.c2)) (f1 s.c0 (f1 t.c2 t.c2))))) (f4 (f1 (f1 s.c0 (f1 t.c2 t.c2)) (f1 (f2 (f1 t.c0 (f1 s.c2 s.c2)) (f1 s.c0 (f1 t.c2 t.c2))) (f2 (f1 t.c0 (f1 s.c2 s.c2)) (f1 s.c0 (f1 t.c2 t.c2))))) (f1 (f1 s.c0 (f1 t.c2 t.c2)) (f1 (f2 (f1 t.c0 (f1 s.c2 s.c2)) (f1 s.c0 (f1 t.c2 t.c2))) (f2 (f1 t.c0 (f1 s.c2 s.c2)) (f1 s.c0 (f1 t.c2 t.c2))))))), (f2 (f1 (f2 (f1 t.c1 (f1 (f1 s.c2 s.c2) s.c2)) (f1 s.c1 (f1 (f1 t.c2 t.c2) t.c2))) (f2 (f1 (f1 s.c0 (f1 t.c2 t.c2)) (f1 (f2 (f1 t.c0 (f1 s.c2 s.c2)) (f1 s.c0 (f1 t.c2 t.c2))) (f2 (f1 t.c0 (f1 s.c2 s.c2)) (f1 s.c0 (f1 t.c2 t.c2))))) (f2 (f2 (f1 (f2 (f1 t.c1 (f1 (f1 s.c2 s.c2) s.c2)) (f1 s.c1 (f1 (f1 t.c2 t.c2) t.c2))) (f2 (f1 t.c1 (f1 (f1 s.c2 s.c2) s.c2)) (f1 s.c1 (f1 (f1 t.c2 t.c2) t.c2)))) (f1 (f1 (f2 (f1 t.c0 (f1 s.c2 s.c2)) (f1 s.c0 (f1 t.c2 t.c2))) (f2 (f1 t.c0 (f1 s.c2 s.c2)) (f1 s.c0 (f1 t.c2 t.c2)))) (f2 (f1 t.c0 (f1 s.c2 s.c2)) (f1 s.c0 (f1 t.c2 t.c2))))) (f4 (f1 (f1 s.c0 (f1 t.c2 t.c2)) (f1 (f2 (f1 t.c0 (f1 s.c2 s.c2)) (f1 s.c0 (f1 t.c2 t.c2))) (f2 (f1 t.c0 (f1 s.c2 s.c2)) (f1 s.c0 (f1 t.c2 t.c2))))) (f1 (f1 s.c0 (f1 t.c2 t.c2)) (f1 (f2 (f1 t.c0 (f1 s.c2 s.c2)) (f1 s.c0 (f1 t.c2 t.c2))) (f2 (f1 t.c0 (f1 s.c2 s.c2)) (f1 s.c0 (f1 t.c2 t.c2))))))))) (f1 (f1 s.c1 (f1 (f1 t.c2 t.c2) t.c2)) (f1 (f1 (f2 (f1 t.c0 (f1 s.c2 s.c2)) (f1 s.c0 (f1 t.c2 t.c2))) (f2 (f1 t.c0 (f1 s.c2 s.c2)) (f1 s.c0 (f1 t.c2 t.c2)))) (f2 (f1 t.c0 (f1 s.c2 s.c2)) (f1 s.c0 (f1 t.c2 t.c2)))))), (f1 (f1 s.c2 t.c2) (f2 (f1 t.c0 (f1 s.c2 s.c2)) (f1 s.c0 (f1 t.c2 t.c2))))⟩ := by
  unfold plusG2_G
  rw [h, h2, h3]
end
theorem px_of2 (u h r : V2) : r * r - h * h * h - (u * (h * h) + u * (h * h)) = r * r - h * h * h - 2 * (u * (h * h)) := by grind
theorem plus2_rel {s t : Fp6} {p q : Pt V2} (hp : p.on) (hq : q.on) (hs : rel2 s p) (ht : rel2 t q) : rel2 (plusG2 s t) (p.add q) := by
  have hs0 := hs
  have ht0 := ht
  obtain ⟨⟨hx, hy, hz⟩, hj⟩ := hs
  obtain ⟨⟨kx, ky, kz⟩, kj⟩ := ht
  unfold plusG2
  by_cases z1 : m2 s.c2 = 0
  · rw [plusG2_l ((m2_zero hz).2 z1), hj.inf_of z1, inf_add]
    exact ht0
  by_cases z2 : m2 t.c2 = 0
  · rw [plusG2_r ((m2_nonzero hz).2 z1) ((m2_zero kz).2 z2), kj.inf_of z2, add_inf]
    exact hs0
  have n1 := (m2_nonzero hz).2 z1
  have n2 := (m2_nonzero kz).2 z2
  have zz := half_ok2 hz hz
  have ww := half_ok2 kz kz
  have zzz := half_ok2 zz hz
  have www := half_ok2 ww kz
  have hu := half_ok2 hx ww
  have hv := half_ok2 kx zz
  have ha := half_ok2 hy www
  have hb := half_ok2 ky zzz
  have hh := sub_ok2 hv hu
  have hr := sub_ok2 hb ha
  have eh : m2 (subF2 (halfF2 t.c0 (halfF2 s.c2 s.c2)) (halfF2 s.c0 (halfF2 t.c2 t.c2))) = m2 t.c0 * (m2 s.c2 * m2 s.c2) - m2 s.c0 * (m2 t.c2 * m2 t.c2) := by
    rw [m2_sub hv hu, m2_half kx zz, m2_half hx ww, m2_half hz hz, m2_half kz kz]
  have er : m2 (subF2 (halfF2 t.c1 (halfF2 (halfF2 s.c2 s.c2) s.c2)) (halfF2 s.c1 (halfF2 (halfF2 t.c2 t.c2) t.c2))) = m2 t.c1 * (m2 s.c2 * m2 s.c2 * m2 s.c2) - m2 s.c1 * (m2 t.c2 * m2 t.c2 * m2 t.c2) := by
    rw [m2_sub hb ha, m2_half ky zzz, m2_half hy www, m2_half zz hz, m2_half ww kz, m2_half hz hz, m2_half kz kz]
  by_cases h0 : m2 t.c0 * (m2 s.c2 * m2 s.c2) - m2 s.c0 * (m2 t.c2 * m2 t.c2) = 0
  · obtain ⟨c1, c2⟩ := plus_same hp hq hj kj z1 z2 h0
    have n3 := (m2_zero hh).2 (by rw [eh]; exact h0)
    by_cases r0 : m2 t.c1 * (m2 s.c2 * m2 s.c2 * m2 s.c2) - m2 s.c1 * (m2 t.c2 * m2 t.c2 * m2 t.c2) = 0
    · rw [plusG2_tw n1 n2 n3 ((m2_zero hr).2 (by rw [er]; exact r0)), c1 r0]
      exact twice2_rel hp hs0
    · rw [plusG2_no n1 n2 n3 ((m2_nonzero hr).2 (by rw [er]; exact r0)), c2 r0]
      exact rel2_inf
  · rw [plusG2_all n1 n2 ((m2_nonzero hh).2 (by rw [eh]; exact h0))]
    have key := plus_all hp hq hj kj z1 z2 h0
    have h2 := half_ok2 hh hh
    have h3 := half_ok2 h2 hh
    have hw := half_ok2 hu h2
    have hrr := half_ok2 hr hr
    have hw2 := add_ok2 hw hw
    have hrh := sub_ok2 hrr h3
    have hX := sub_ok2 hrh hw2
    have hwx := sub_ok2 hw hX
    have hrw := half_ok2 hr hwx
    have hah := half_ok2 ha h3
    have hst := half_ok2 hz kz
    have eu : m2 (halfF2 s.c0 (halfF2 t.c2 t.c2)) = m2 s.c0 * (m2 t.c2 * m2 t.c2) := by rw [m2_half hx ww, m2_half kz kz]
    have ea : m2 (halfF2 s.c1 (halfF2 (halfF2 t.c2 t.c2) t.c2)) = m2 s.c1 * (m2 t.c2 * m2 t.c2 * m2 t.c2) := by rw [m2_half hy www, m2_half ww kz, m2_half kz kz]
    have e1 := m2_sub hrh hw2
    rw [m2_sub hrr h3, m2_half hr hr, er, m2_half h2 hh, m2_half hh hh, eh, m2_add hw hw, m2_half hu h2, eu, m2_half hh hh, eh, px_of2] at e1
    have e1' : _ = px (m2 s.c0) (m2 s.c1) (m2 s.c2) (m2 t.c0) (m2 t.c1) (m2 t.c2) := e1
    have e2 := m2_sub hrw hah
    rw [m2_half hr hwx, m2_sub hw hX, e1', m2_half hu h2, eu, m2_half hh hh, eh, m2_half ha h3, ea, m2_half h2 hh, m2_half hh hh, eh, er] at e2
    have e3 := m2_half hst hh
    rw [m2_half hz kz, eh] at e3
    refine rel2_mk hX (sub_ok2 hrw hah) (half_ok2 hst hh) ?_
    rw [e1', e2, e3]
    exact key
theorem neg2_pt {a : Pg2} (ha : a.good) : (negG2 a).good ∧ (negG2 a).pt = a.pt.neg := by
  unfold negG2
  cases hi : a.inf with
  | true =>
    rw [negG2_inf hi, pt2_inf hi]
    exact ⟨ha, rfl⟩
  | false =>
    obtain ⟨hx, hy⟩ := ok_aff2 ha.1 hi
    have ho := neg_on ha.2
    rw [pt2_aff hi] at ho ⊢
    rw [negG2_aff hi]
    exact good2_mk hx (neg_ok2 hy) rfl (v_neg2 hy) ho
theorem rhs2_G_eq (f0 f1 : Fp2 → Fp2 → Fp2) (x : Fp2) : rhsG2_G f0 f1 x = f0 (f1 (f1 x x) x) bFp2 := rfl
theorem rhs2_v {x : Fp2} (hx : x.ok) : (rhsG2 x).ok ∧ (rhsG2 x).v = x.v * x.v * x.v + Crv.b := by
  have hb : bFp2.ok ∧ bFp2.v = Crv.b := bFp2_v
  have h2 := mul_ok2 hx hx
  have h3 := mul_ok2 h2 hx
  unfold rhsG2
  rw [rhs2_G_eq]
  refine ⟨add_ok2 h3 hb.1, ?_⟩
  rw [v_add2 h3 hb.1, v_mul2 h2 hx, v_mul2 hx hx, hb.2]
theorem on2_iff (p : Pg2) : onG2 p = true ↔ p.good := by
  unfold onG2
  cases hi : p.inf with
  | true =>
    rw [onG2_inf hi, pg2Eq_iff]
    constructor
    · intro h; rw [h]; exact good_inf2
    · intro h; exact ok_inf2 h.1 hi
  | false =>
    rw [onG2_aff hi, Bool.and_eq_true, Bool.and_eq_true, may2_iff, may2_iff]
    constructor
    · rintro ⟨⟨hx, hy⟩, h⟩
      obtain ⟨r1, r2⟩ := rhs2_v hx
      rw [fp2Eq_v (mul_ok2 hy hy) r1, v_mul2 hy hy, r2] at h
      exact ⟨.inr ⟨hi, hx, hy⟩, by rw [pt2_aff hi]; exact h⟩
    · intro h
      obtain ⟨hx, hy⟩ := ok_aff2 h.1 hi
      obtain ⟨r1, r2⟩ := rhs2_v hx
      refine ⟨⟨hx, hy⟩, ?_⟩
      rw [fp2Eq_v (mul_ok2 hy hy) r1, v_mul2 hy hy, r2]
      have := h.2
      rw [pt2_aff hi] at this
      exact this
end Go.Proofs.YtbbnabednkopdaaGreat

set_option linter.unusedSimpArgs false
set_option linter.unusedVariables false
namespace Go.Proofs.YtbbnabednkopdaaGreat
def qN : Nat := 0x73eda753299d7d483339d80809a1d80553bda402fffe5bfeffffffff00000001
def r4N : Nat := 0x10000000000000000000000000000000000000000000000000000000000000000
def Fr.nat (a : Fr) : Nat := a.l0.toNat + W64 * (a.l1.toNat + W64 * (a.l2.toNat + W64 * (a.l3.toNat)))
theorem Fr.nat_lt (a : Fr) : a.nat < r4N := by
  have h0 := a.l0.toNat_lt
  have h1 := a.l1.toNat_lt
  have h2 := a.l2.toNat_lt
  have h3 := a.l3.toNat_lt
  unfold Fr.nat r4N W64
  omega
theorem Fr.nat_inj {a b : Fr} (h : a.nat = b.nat) : a = b := by
  have h0 := a.l0.toNat_lt
  have h1 := a.l1.toNat_lt
  have h2 := a.l2.toNat_lt
  have h3 := a.l3.toNat_lt
  have k0 := b.l0.toNat_lt
  have k1 := b.l1.toNat_lt
  have k2 := b.l2.toNat_lt
  have k3 := b.l3.toNat_lt
  unfold Fr.nat W64 at h
  have e0 : a.l0 = b.l0 := UInt64.toNat.inj (by omega)
  have e1 : a.l1 = b.l1 := UInt64.toNat.inj (by omega)
  have e2 : a.l2 = b.l2 := UInt64.toNat.inj (by omega)
  have e3 : a.l3 = b.l3 := UInt64.toNat.inj (by omega)
  cases a; cases b
  simp only [] at e0 e1 e2 e3
  subst e0 e1 e2 e3
  rfl
theorem rLimbs_nat : rLimbs.nat = qN := by decide +kernel
def L5.nat (t : L5) : Nat := t.t0.toNat + W64 * (t.t1.toNat + W64 * (t.t2.toNat + W64 * (t.t3.toNat + W64 * (t.t4.toNat))))
theorem L5.nat_low (t : L5) : t.nat = t.low.nat + r4N * t.t4.toNat := by
  unfold L5.nat L5.low Fr.nat r4N W64
  simp only []
  omega
end Go.Proofs.YtbbnabednkopdaaGreat

set_option linter.unusedSimpArgs false
set_option linter.unusedVariables false
namespace Go.Proofs.YtbbnabednkopdaaGreat
open Go.RowKit
theorem add5_G {K : Type} [Fld K] [Crv K] {f0 : Fp2 → Fp2 → Bool → Fp2} {f1 f2 : Fp2 → Fp2 → Fp2} {f3 : Fp2 → Bool → Fp2} {b : K} {small : Bool} (ok : Fp2 → Prop) (v : Fp2 → K)
    (hA : ∀ {x y}, ok x → ok y → ok (f1 x y) ∧ v (f1 x y) = v x + v y) (hS : ∀ {x y}, ok x → ok y → ok (f2 x y) ∧ v (f2 x y) = v x - v y) (hM : ∀ {x y}, ok x → ok y → ok (f0 x y small) ∧ v (f0 x y small) = v x * v y) (hB : ∀ {x}, ok x → ok (f3 x small) ∧ v (f3 x small) = 3 * b * v x)
    {s t : Fp6} (hs : ok s.c0 ∧ ok s.c1 ∧ ok s.c2) (ht : ok t.c0 ∧ ok t.c1 ∧ ok t.c2) :
    (ok (addS5_G f0 f1 f2 f3 s t small).c0 ∧ ok (addS5_G f0 f1 f2 f3 s t small).c1 ∧ ok (addS5_G f0 f1 f2 f3 s t small).c2) ∧
    v (addS5_G f0 f1 f2 f3 s t small).c0 = rx b (v s.c0) (v s.c1) (v s.c2) (v t.c0) (v t.c1) (v t.c2) ∧ v (addS5_G f0 f1 f2 f3 s t small).c1 = ry b (v s.c0) (v s.c1) (v s.c2) (v t.c0) (v t.c1) (v t.c2) ∧ v (addS5_G f0 f1 f2 f3 s t small).c2 = rz b (v s.c0) (v s.c1) (v s.c2) (v t.c0) (v t.c1) (v t.c2) := by
  obtain ⟨s0, s1, s2⟩ := hs
  obtain ⟨t0, t1, t2⟩ := ht
  have a0 := hM s0 t0
  have a1 := hM s1 t1
  have a2 := hM s2 t2
  have b3 := hM (hA s0 s1).1 (hA t0 t1).1
  have b4 := hM (hA s1 s2).1 (hA t1 t2).1
  have b5 := hM (hA s0 s2).1 (hA t0 t2).1
  have c3 := hS (hS b3.1 a0.1).1 a1.1
  have c4 := hS (hS b4.1 a1.1).1 a2.1
  have c5 := hS (hS b5.1 a0.1).1 a2.1
  have d0 := hA (hA a0.1 a0.1).1 a0.1
  have d2 := hB a2.1
  have dz := hA a1.1 d2.1
  have d1 := hS a1.1 d2.1
  have dy := hB c5.1
  have x1 := hM c3.1 d1.1
  have x2 := hM c4.1 dy.1
  have y1 := hM d1.1 dz.1
  have y2 := hM dy.1 d0.1
  have z1 := hM dz.1 c4.1
  have z2 := hM d0.1 c3.1
  have X := hS x1.1 x2.1
  have Y := hA y1.1 y2.1
  have Z := hA z1.1 z2.1
  have e3 := c3.2
  rw [(hS b3.1 a0.1).2, b3.2, a0.2, a1.2, (hA s0 s1).2, (hA t0 t1).2] at e3
  have e4 := c4.2
  rw [(hS b4.1 a1.1).2, b4.2, a1.2, a2.2, (hA s1 s2).2, (hA t1 t2).2] at e4
  have e5 := c5.2
  rw [(hS b5.1 a0.1).2, b5.2, a0.2, a2.2, (hA s0 s2).2, (hA t0 t2).2] at e5
  have eX := X.2
  rw [x1.2, x2.2, e3, e4, d1.2, dy.2, e5, d2.2, a1.2, a2.2] at eX
  have eY := Y.2
  rw [y1.2, y2.2, d1.2, dz.2, dy.2, e5, d0.2, (hA a0.1 a0.1).2, d2.2, a0.2, a1.2, a2.2] at eY
  have eZ := Z.2
  rw [z1.2, z2.2, dz.2, e4, d0.2, (hA a0.1 a0.1).2, d2.2, e3, a0.2, a1.2, a2.2] at eZ
  refine ⟨⟨X.1, Y.1, Z.1⟩, eX.trans ?_, eY.trans ?_, eZ.trans ?_⟩
  · unfold rx; clear eX eY eZ e3 e4 e5; grind
  · unfold ry; clear eX eY eZ e3 e4 e5; grind
  · unfold rz; clear eX eY eZ e3 e4 e5; grind
def lowOk (x : Fp2) : Prop := x.c0.ok ∧ x.c1 = zeroFp
def lowV (x : Fp2) : V1 := x.c0.v
theorem zero_zero {f : Fp → Fp → Fp} (h : f zeroFp zeroFp = zeroFp) {x y : Fp2} (hx : x.c1 = zeroFp) (hy : y.c1 = zeroFp) : f x.c1 y.c1 = zeroFp := by rw [hx, hy, h]
theorem addF_zz : addF zeroFp zeroFp = zeroFp := Fp.v_inj (add_ok' zero_ok' zero_ok') zero_ok' (by rw [v_add zero_ok' zero_ok', v_zero]; exact CR.add_zero _)
theorem subF_zz : subF zeroFp zeroFp = zeroFp := Fp.v_inj (sub_ok' zero_ok' zero_ok') zero_ok' (by rw [v_sub zero_ok' zero_ok', v_zero]; exact sub_of_eq rfl)
theorem lowMk2 {x y : Fp} {z : V1} (h : x.ok) (hy : y = zeroFp) (hv : x.v = z) : lowOk ⟨x, y⟩ ∧ lowV ⟨x, y⟩ = z := ⟨⟨h, hy⟩, hv⟩
theorem low_add {x y : Fp2} (hx : lowOk x) (hy : lowOk y) : lowOk (add2R x y) ∧ lowV (add2R x y) = lowV x + lowV y := by
  rw [add2R_eq, addF2_eq]
  exact lowMk2 (add_ok' hx.1 hy.1) (zero_zero addF_zz hx.2 hy.2) (v_add hx.1 hy.1)
theorem low_sub {x y : Fp2} (hx : lowOk x) (hy : lowOk y) : lowOk (sub2R x y) ∧ lowV (sub2R x y) = lowV x - lowV y := by
  rw [sub2R_eq, subF2_eq]
  exact lowMk2 (sub_ok' hx.1 hy.1) (zero_zero subF_zz hx.2 hy.2) (v_sub hx.1 hy.1)
theorem mulS_true (f0 : Fp → Fp → Fp) (f1 : Fp2 → Fp2 → Fp2) (x y : Fp2) : mulS_G f0 f1 x y true = ⟨f0 x.c0 y.c0, zeroFp⟩ := rfl
theorem lowMk {x : Fp} (h : x.ok) : lowOk ⟨x, zeroFp⟩ ∧ lowV ⟨x, zeroFp⟩ = x.v := ⟨⟨h, rfl⟩, rfl⟩
theorem low_mul {x y : Fp2} (hx : lowOk x) (hy : lowOk y) : lowOk (mulS x y true) ∧ lowV (mulS x y true) = lowV x * lowV y := by
  unfold mulS
  rw [mulS_true, mulPF_eq hx.1 hy.1, ← show (mulF x.c0 y.c0).v = lowV x * lowV y from v_mul hx.1 hy.1]
  exact lowMk (mul_ok' hx.1)
theorem b3_true (f0 f1 : Fp2 → Fp2 → Fp2) (f2 x : Fp2) : b3R_G f0 f1 f2 x true = f0 (f0 (f0 (f0 x x) (f0 x x)) (f0 (f0 x x) (f0 x x))) (f0 (f0 x x) (f0 x x)) := rfl
theorem twelve_v {K : Type} [CR K] (x : K) : x + x + (x + x) + (x + x + (x + x)) + (x + x + (x + x)) = 3 * 4 * x := by grind
theorem low_b3 {x : Fp2} (hx : lowOk x) : lowOk (b3R x true) ∧ lowV (b3R x true) = 3 * Crv.b * lowV x := by
  unfold b3R
  rw [b3_true]
  have h2 := low_add hx hx
  have h4 := low_add h2.1 h2.1
  have h8 := low_add h4.1 h4.1
  have h12 := low_add h8.1 h4.1
  refine ⟨h12.1, ?_⟩
  rw [h12.2, h8.2, h4.2, h2.2]
  exact twelve_v _
def low3 (s : Fp6) : Prop := lowOk s.c0 ∧ lowOk s.c1 ∧ lowOk s.c2
def relR1 (s : Fp6) (p : Pt V1) : Prop := low3 s ∧ Pj (lowV s.c0) (lowV s.c1) (lowV s.c2) p
theorem add5_rel1 {s t : Fp6} {p q : Pt V1} (hp : p.on) (hq : q.on) (hs : relR1 s p) (ht : relR1 t q) : relR1 (addS5 s t true) (p.add q) := by
  unfold addS5
  obtain ⟨h1, h2, h3, h4⟩ := add5_G (b := (Crv.b : V1)) lowOk lowV low_add low_sub low_mul low_b3 hs.1 ht.1
  refine ⟨h1, ?_⟩
  rw [h2, h3, h4]
  exact sum_all hp hq hs.2 ht.2
theorem relR1_mk {a b c : Fp2} {p : Pt V1} (ha : lowOk a) (hb : lowOk b) (hc : lowOk c) (h : Pj (lowV a) (lowV b) (lowV c) p) : relR1 ⟨a, b, c⟩ p := ⟨⟨ha, hb, hc⟩, h⟩
theorem none5_eq : none5 = ⟨zeroFp2, oneFp2, zeroFp2⟩ := by
  unfold none5
  rw [one2R_eq]
  rfl
theorem zero_low : lowOk zeroFp2 ∧ lowV zeroFp2 = 0 := ⟨⟨zero_ok', rfl⟩, v_zero⟩
theorem one_low : lowOk oneFp2 ∧ lowV oneFp2 = 1 := ⟨⟨one_ok', rfl⟩, v_one⟩
theorem none_rel1 : relR1 none5 .inf := by
  rw [none5_eq]
  refine relR1_mk zero_low.1 one_low.1 zero_low.1 ?_
  rw [zero_low.2, one_low.2]
  exact ⟨rfl, rfl, one_ne'⟩
theorem of1_inf {f0 : Fp6} {f1 : Fp2} {a : Pg1} (h : a.inf = true) : of1R_G f0 f1 a = f0 := by unfold of1R_G; rw [h]
theorem of1_aff {f0 : Fp6} {f1 : Fp2} {a : Pg1} (h : a.inf = false) : of1R_G f0 f1 a = ⟨⟨a.x, zeroFp⟩, ⟨a.y, zeroFp⟩, f1⟩ := by unfold of1R_G; rw [h]
theorem of1_rel {a : Pg1} (ha : a.good) : relR1 (of1R a) a.pt := by
  unfold of1R
  cases hi : a.inf with
  | true => rw [of1_inf hi, pt1_inf hi]; exact none_rel1
  | false =>
    obtain ⟨hx, hy⟩ := ok_aff1 ha.1 hi
    rw [of1_aff hi, pt1_aff hi, one2R_eq]
    refine relR1_mk (lowMk hx).1 (lowMk hy).1 one_low.1 ?_
    rw [(lowMk hx).2, (lowMk hy).2, one_low.2]
    exact ⟨one_ne', (CR.mul_one _).symm, (CR.mul_one _).symm⟩
theorem to1_no {f0 : Fp → Fp × Int} {f1 : Fp → Fp → Fp} {s : Fp6} (h : (f0 s.c2.c0).2 = 7) : to1R_G f0 f1 s = infG1 := by
  unfold to1R_G
  rw [h]
  rfl
theorem to1_yes {f0 : Fp → Fp × Int} {f1 : Fp → Fp → Fp} {s : Fp6} (h : (f0 s.c2.c0).2 = 0) : to1R_G f0 f1 s = ⟨f1 s.c0.c0 (f0 s.c2.c0).1, f1 s.c1.c0 (f0 s.c2.c0).1, false⟩ := by
  unfold to1R_G
  rw [h]
  rfl
theorem pj_div {K : Type} [Fld K] {x z : K} (hz : z ≠ 0) : x * z * Fld.inv z = x := by
  have := mul_inv' hz
  grind
theorem to1_rel {s : Fp6} {p : Pt V1} (hp : p.on) (h : relR1 s p) : (to1R s).good ∧ (to1R s).pt = p := by
  obtain ⟨⟨h0, h1, h2⟩, hj⟩ := h
  obtain ⟨i1, i2⟩ := inv_v h2.1
  have ei := invPF_eq h2.1
  unfold to1R
  cases p with
  | inf =>
    rw [to1_no (by rw [ei]; exact i1 hj.2.1)]
    exact ⟨good_inf1, rfl⟩
  | aff x y =>
    obtain ⟨hz, e1, e2⟩ := hj
    obtain ⟨j1, j2, j3⟩ := i2 hz
    rw [to1_yes (by rw [ei]; exact j1), ei, mulPF_eq h0.1 j2, mulPF_eq h1.1 j2]
    refine good1_mk (mul_ok' h0.1) (mul_ok' h1.1) ?_ ?_ hp
    · rw [v_mul h0.1 j2, j3, show s.c0.c0.v = x * s.c2.c0.v from e1]
      exact pj_div hz
    · rw [v_mul h1.1 j2, j3, show s.c1.c0.v = y * s.c2.c0.v from e2]
      exact pj_div hz
theorem times_rel1 {s : Fp6} {p : Pt V1} (hp : p.on) (h : relR1 s p) (e : List UInt64) : relR1 (timesR s e true) (p.mul (valL e)) :=
  dblG_all relR1 hp (fun hq h => add5_rel1 hq hq h h) (fun hq k => add5_rel1 hq hp k h) e none_rel1
theorem list4_val (k : Fr) : valL k.list = k.nat := by
  show valAt [k.l0, k.l1, k.l2, k.l3] 4 = _
  unfold Fr.nat
  simp only [valAt, atF, List.getD_eq_getElem?_getD, List.getElem?_cons_zero, List.getElem?_cons_succ, Option.getD_some, W64]
  omega
theorem times1_pt {s : Sp1} {p : Pt V1} (hp : p.on) (h : rel1 s p) (e : List UInt64) : rel1 (timesG1 s e) (p.mul (valL e)) :=
  dblG_all rel1 hp (fun hq h => twice1_rel hq h) (fun hq k => plus1_rel hq hp k h) e rel1_inf
theorem times2_pt {s : Fp6} {p : Pt V2} (hp : p.on) (h : rel2 s p) (e : List UInt64) : rel2 (timesG2 s e) (p.mul (valL e)) :=
  dblG_all rel2 hp (fun hq h => twice2_rel hq h) (fun hq k => plus2_rel hq hp k h) e rel2_inf
theorem times1R_def (f0 : Fp6 → Pg1) (f1 : Fp6 → List UInt64 → Bool → Fp6) (f2 : Pg1 → Fp6) (a : Pg1) (k : Fr) : times1R_G f0 f1 f2 a k = f0 (f1 (f2 a) k.list true) := rfl
theorem times1R_pt {a : Pg1} (ha : a.good) (k : Fr) : (times1R a k).good ∧ (times1R a k).pt = a.pt.mul k.nat := by
  unfold times1R
  rw [times1R_def, ← list4_val]
  exact to1_rel (mul_on ha.2 _) (times_rel1 ha.2 (of1_rel ha) _)
theorem minus1R_inf {f : Fp → Fp} {a : Pg1} (h : a.inf = true) : minus1R_G f a = a := by unfold minus1R_G; rw [h]; rfl
theorem minus1R_aff {f : Fp → Fp} {a : Pg1} (h : a.inf = false) : minus1R_G f a = ⟨a.x, f a.y, false⟩ := by unfold minus1R_G; rw [h]; rfl
theorem minus2R_inf {f : Fp2 → Fp2} {a : Pg2} (h : a.inf = true) : minus2R_G f a = a := by unfold minus2R_G; rw [h]; rfl
theorem minus2R_aff {f : Fp2 → Fp2} {a : Pg2} (h : a.inf = false) : minus2R_G f a = ⟨a.x, f a.y, false⟩ := by unfold minus2R_G; rw [h]; rfl
theorem minus1R_eq (a : Pg1) : minus1R a = negG1 a := by
  unfold minus1R negG1
  cases hi : a.inf with
  | true => rw [minus1R_inf hi, negG1_inf hi]
  | false => rw [minus1R_aff hi, negG1_aff hi, negPF_eq]
theorem minus2R_eq (a : Pg2) : minus2R a = negG2 a := by
  unfold minus2R negG2
  cases hi : a.inf with
  | true => rw [minus2R_inf hi, negG2_inf hi]
  | false => rw [minus2R_aff hi, negG2_aff hi, neg2R_eq]
end Go.Proofs.YtbbnabednkopdaaGreat

set_option linter.unusedSimpArgs false
set_option linter.unusedVariables false
namespace Go.Proofs.YtbbnabednkopdaaGreat
open Go.RowKit
def force {α : Type} (n : Nat) (k : Nat → α) : α := match n with
  | 0 => k 0
  | m + 1 => k (m + 1)
theorem force_eq {α : Type} (n : Nat) (k : Nat → α) : force n k = k n := by cases n <;> rfl
def fcV1 {α : Type} (a : V1) (k : V1 → α) : α := force a.nat fun n => k (V1.of n)
theorem fcV1_eq {α : Type} (a : V1) (k : V1 → α) : fcV1 a k = k a := by unfold fcV1; rw [force_eq, V1.of_nat]
def fcV2 {α : Type} (a : V2) (k : V2 → α) : α := force a.a.nat fun n => force a.b.nat fun m => k ⟨V1.of n, V1.of m⟩
theorem fcV2_eq {α : Type} (a : V2) (k : V2 → α) : fcV2 a k = k a := by unfold fcV2; rw [force_eq, force_eq, V1.of_nat, V1.of_nat]
def goP {K : Type} [Fld K] [Crv K] (fc : K → (K → K × K × K) → K × K × K) (b gx gy : K) (e : List UInt64) : Nat → K → K → K → K × K × K
  | 0, X, Y, Z => (X, Y, Z)
  | n + 1, X, Y, Z => fc (rx b X Y Z X Y Z) fun X' => fc (ry b X Y Z X Y Z) fun Y' => fc (rz b X Y Z X Y Z) fun Z' => match bitAt e n with
    | true => fc (rx b X' Y' Z' gx gy 1) fun X'' => fc (ry b X' Y' Z' gx gy 1) fun Y'' => fc (rz b X' Y' Z' gx gy 1) fun Z'' => goP fc b gx gy e n X'' Y'' Z''
    | false => goP fc b gx gy e n X' Y' Z'
theorem goP_eq {K : Type} [Fld K] [Crv K] {fc : K → (K → K × K × K) → K × K × K} (h : ∀ a k, fc a k = k a) (b gx gy : K) (e : List UInt64) : ∀ (n : Nat) (X Y Z : K),
    goP fc b gx gy e n X Y Z = dblG (fun s => (rx b s.1 s.2.1 s.2.2 s.1 s.2.1 s.2.2, ry b s.1 s.2.1 s.2.2 s.1 s.2.1 s.2.2, rz b s.1 s.2.1 s.2.2 s.1 s.2.1 s.2.2)) (fun s => (rx b s.1 s.2.1 s.2.2 gx gy 1, ry b s.1 s.2.1 s.2.2 gx gy 1, rz b s.1 s.2.1 s.2.2 gx gy 1)) e n (X, Y, Z)
  | 0, X, Y, Z => rfl
  | n + 1, X, Y, Z => by
    simp only [goP, h, dblG]
    cases bitAt e n with
    | true => exact goP_eq h b gx gy e n _ _ _
    | false => exact goP_eq h b gx gy e n _ _ _
theorem order_of {K : Type} [Fld K] [Crv K] {fc : K → (K → K × K × K) → K × K × K} (h : ∀ a k, fc a k = k a) {gx gy : K} (hg : (Pt.aff gx gy).on) (e : List UInt64) (hz : (goP fc Crv.b gx gy e (64 * e.length) 0 1 0).2.2 = 0) : (Pt.aff gx gy).mul (valL e) = .inf := by
  rw [goP_eq h] at hz
  have key := dblG_all (fun (s : K × K × K) p => Pj s.1 s.2.1 s.2.2 p) (p := Pt.aff gx gy) hg (tw := fun s => (rx Crv.b s.1 s.2.1 s.2.2 s.1 s.2.1 s.2.2, ry Crv.b s.1 s.2.1 s.2.2 s.1 s.2.1 s.2.2, rz Crv.b s.1 s.2.1 s.2.2 s.1 s.2.1 s.2.2)) (pl := fun s => (rx Crv.b s.1 s.2.1 s.2.2 gx gy 1, ry Crv.b s.1 s.2.1 s.2.2 gx gy 1, rz Crv.b s.1 s.2.1 s.2.2 gx gy 1))
    (fun hq k => sum_all hq hq k k) (fun hq k => sum_all hq hg k ⟨one_ne', (CR.mul_one _).symm, (CR.mul_one _).symm⟩) e (o := ((0 : K), (1 : K), (0 : K))) ⟨rfl, rfl, one_ne'⟩
  generalize (Pt.aff gx gy).mul (valL e) = p at *
  cases p with
  | inf => rfl
  | aff x y => exact absurd hz key.1
theorem gen1_ok : oneG1.x.ok ∧ oneG1.y.ok := ⟨by unfold Fp.ok; decide +kernel, by unfold Fp.ok; decide +kernel⟩
theorem gen1_aff : oneG1.inf = false := rfl
theorem gen1_on : (Pt.aff oneG1.x.v oneG1.y.v).on := V1.ext (by
  show (oneG1.y.v * oneG1.y.v).nat = (oneG1.x.v * oneG1.x.v * oneG1.x.v + (4 : V1)).nat
  rw [V1.nat_mul, V1.nat_add, V1.nat_mul, V1.nat_mul, Fp.v_nat gen1_ok.1, Fp.v_nat gen1_ok.2]
  decide +kernel)
theorem gen1_good : oneG1.good := ⟨.inr ⟨gen1_aff, gen1_ok⟩, gen1_on⟩
theorem gen1_pt : oneG1.pt = .aff oneG1.x.v oneG1.y.v := pt1_aff gen1_aff
theorem rLimbs_val : valL rLimbs.list = qN := by rw [list4_val, rLimbs_nat]
theorem gen1_order : oneG1.pt.mul qN = .inf := by
  rw [← rLimbs_val, gen1_pt]
  exact order_of (fc := fcV1) fcV1_eq gen1_on rLimbs.list (V1.ext (by decide +kernel))
theorem gen2_ok : oneG2.x.ok ∧ oneG2.y.ok := ⟨⟨by unfold Fp.ok; decide +kernel, by unfold Fp.ok; decide +kernel⟩, ⟨by unfold Fp.ok; decide +kernel, by unfold Fp.ok; decide +kernel⟩⟩
theorem gen2_aff : oneG2.inf = false := rfl
theorem V2.ext_nat {x y : V2} (h : x.a.nat = y.a.nat) (g : x.b.nat = y.b.nat) : x = y := Qd.ext' (V1.ext h) (V1.ext g)
theorem gen2_on : (Pt.aff oneG2.x.v oneG2.y.v).on := V2.ext_nat (by
  show ((oneG2.y.v * oneG2.y.v).a).nat = (oneG2.x.v * oneG2.x.v * oneG2.x.v + bb2).a.nat
  decide +kernel) (by
  show ((oneG2.y.v * oneG2.y.v).b).nat = (oneG2.x.v * oneG2.x.v * oneG2.x.v + bb2).b.nat
  decide +kernel)
theorem gen2_good : oneG2.good := ⟨.inr ⟨gen2_aff, gen2_ok⟩, gen2_on⟩
theorem gen2_pt : oneG2.pt = .aff oneG2.x.v oneG2.y.v := pt2_aff gen2_aff
theorem gen2_order : oneG2.pt.mul qN = .inf := by
  rw [← rLimbs_val, gen2_pt]
  exact order_of (fc := fcV2) fcV2_eq gen2_on rLimbs.list (V2.ext_nat (by decide +kernel) (by decide +kernel))
end Go.Proofs.YtbbnabednkopdaaGreat

set_option linter.unusedSimpArgs false
set_option linter.unusedVariables false
namespace Go.Proofs.YtbbnabednkopdaaGreat
open Go.RowKit
theorem jc_zero {X Y Z : V1} (h : Jc X Y Z .inf) : Z = 0 := h
theorem inG1_def (f0 : Pg1 → Bool) (f1 : Fp → Bool) (f2 : Sp1 → List UInt64 → Sp1) (f3 : Pg1 → Sp1) (f4 : Fr) (a : Pg1) : inG1_G f0 f1 f2 f3 f4 a = (f0 a && f1 (f2 (f3 a) f4.list).z) := by
  unfold inG1_G
  cases f0 a <;> rfl
theorem rel1_none {s : Sp1} {p : Pt V1} (h : rel1 s p) : zeroG1 s.z = true ↔ p = .inf := by
  rw [m1_zero h.1.2.2]
  constructor
  · exact h.2.inf_of
  · intro e
    subst e
    exact jc_zero h.2
theorem in1_iff (a : Pg1) : inG1 a = true ↔ a.good ∧ a.pt.mul qN = .inf := by
  have key : a.good → (zeroG1 (timesG1 (liftG1 a) rLimbs.list).z = true ↔ a.pt.mul qN = .inf) := fun hg => by
    rw [← rLimbs_val]
    exact rel1_none (times1_pt hg.2 (lift1_rel hg) rLimbs.list)
  unfold inG1
  rw [inG1_def, Bool.and_eq_true, on1_iff]
  exact ⟨fun h => ⟨h.1, (key h.1).1 h.2⟩, fun h => ⟨h.1, (key h.1).2 h.2⟩⟩
theorem two_nat : (⟨2, 0, 0, 0⟩ : Fr).nat = 2 := by decide +kernel
end Go.Proofs.YtbbnabednkopdaaGreat

set_option linter.unusedSimpArgs false
set_option linter.unusedVariables false
namespace Go.Proofs.YtbbnabednkopdaaGreat
open Go.RowKit
theorem jc_zero2 {X Y Z : V2} (h : Jc X Y Z .inf) : Z = 0 := h
theorem inG2_def (f0 : Pg2 → Bool) (f1 : Fp2 → Bool) (f2 : Fp6 → List UInt64 → Fp6) (f3 : Pg2 → Fp6) (f4 : Fr) (a : Pg2) : inG2_G f0 f1 f2 f3 f4 a = (f0 a && f1 (f2 (f3 a) f4.list).c2) := by
  unfold inG2_G
  cases f0 a <;> rfl
theorem rel2_none {s : Fp6} {p : Pt V2} (h : rel2 s p) : zeroG2 s.c2 = true ↔ p = .inf := by
  rw [m2_zero h.1.2.2]
  constructor
  · exact h.2.inf_of
  · intro e
    subst e
    exact jc_zero2 h.2
theorem in2_iff (a : Pg2) : inG2 a = true ↔ a.good ∧ a.pt.mul qN = .inf := by
  have key : a.good → (zeroG2 (timesG2 (liftG2 a) rLimbs.list).c2 = true ↔ a.pt.mul qN = .inf) := fun hg => by
    rw [← rLimbs_val]
    exact rel2_none (times2_pt hg.2 (lift2_rel hg) rLimbs.list)
  unfold inG2
  rw [inG2_def, Bool.and_eq_true, on2_iff]
  exact ⟨fun h => ⟨h.1, (key h.1).1 h.2⟩, fun h => ⟨h.1, (key h.1).2 h.2⟩⟩
end Go.Proofs.YtbbnabednkopdaaGreat

set_option linter.unusedSimpArgs false
set_option linter.unusedVariables false
namespace Go.Proofs.YtbbnabednkopdaaGreat
open Go.RowKit
def coreG {X P : Type} (xo : X × Int) (sF : X → X × Bool) (cub : X → X) (isz : X → Bool) (fin : Bool → X → X → P) (inF : P → Bool) (z : P) (high : Bool) : P × Int :=
  cond (xo.2 != 0) (z, xo.2) (cond (!(sF (cub xo.1)).2) (z, 5) (cond (high && isz (sF (cub xo.1)).1) (z, 3) (cond (!inF (fin high xo.1 (sF (cub xo.1)).1)) (z, 6) (fin high xo.1 (sF (cub xo.1)).1, 0))))
def takeV {P : Type} (r : List UInt8 × Bool × Bool × Int) (z i : P) (c : P × Int) : P × Int := cond (r.2.2.2 != 0) (z, r.2.2.2) (cond r.2.1 (i, 0) c)
def twoG (f1 : List UInt8 → Fp × Int) (l : List UInt8) : Fp2 × Int := cond ((f1 (List.take 48 l)).2 != 0) (zeroFp2, (f1 (List.take 48 l)).2) (cond ((f1 (List.drop 48 l)).2 != 0) (zeroFp2, (f1 (List.drop 48 l)).2) (⟨(f1 (List.drop 48 l)).1, (f1 (List.take 48 l)).1⟩, 0))
theorem take1_val (f0 : List UInt8 → Int → List UInt8 × Bool × Bool × Int) (f1 : List UInt8 → Fp × Int) (f2 : Fp → Fp × Bool) (f3 f4 : Fp → Fp → Fp) (f5 : UInt64 → Fp) (f6 : Pg1 → Pg1) (f7 : Pg1 → Bool) (b : List UInt8) :
    (take1F_T f0 f1 f2 f3 f4 f5 f6 f7 b).outD (pg10, 0) = takeV (f0 b 48) pg10 infG1 (coreG (f1 (f0 b 48).1) f2 (fun x => f3 (f4 (f4 x x) x) (f5 4)) (fun y => fpEq y zeroFp) (fun h x y => cond h (f6 ⟨x, y, false⟩) ⟨x, y, false⟩) f7 pg10 (f0 b 48).2.2.1) := by
  unfold take1F_T takeV coreG
  simp only [outD_br, outD_vc, outD_leaf, whole8]
  generalize f0 b 48 = r
  obtain ⟨l, i, h, e⟩ := r
  generalize f1 l = x
  obtain ⟨x, o⟩ := x
  have e4 : f5 (UInt64.ofNat 4) = f5 4 := rfl
  rw [e4]
  generalize f2 (f3 (f4 (f4 x x) x) (f5 4)) = s
  obtain ⟨y, is⟩ := s
  cases h <;> cases is <;> first
    | rfl
    | (cases hz : fpEq y zeroFp <;> rfl)
theorem dropTail (l : List UInt8) : List.take (l.length - 48) (List.drop 48 l) = List.drop 48 l := List.take_of_length_le (by rw [List.length_drop]; exact Nat.le_refl _)
theorem take2_val (f0 : List UInt8 → Int → List UInt8 × Bool × Bool × Int) (f1 : List UInt8 → Fp × Int) (f2 : Fp2 → Fp2 × Bool) (f3 f4 : Fp2 → Fp2 → Fp2) (f6 : Pg2 → Pg2) (f7 : Pg2 → Bool) (b : List UInt8) :
    (take2F_T f0 f1 f2 f3 f4 f6 f7 b).outD (pg20, 0) = takeV (f0 b 96) pg20 infG2 (coreG (twoG f1 (f0 b 96).1) f2 (fun x => f3 (f4 (f4 x x) x) bFp2) (fun y => fp2Eq y zeroFp2) (fun h x y => cond h (f6 ⟨x, y, false⟩) ⟨x, y, false⟩) f7 pg20 (f0 b 96).2.2.1) := by
  unfold take2F_T takeV coreG twoG
  simp only [outD_br, outD_vc, outD_leaf, dropTail, List.drop_zero, List.take_length]
  generalize f0 b 96 = r
  obtain ⟨l, i, h, e⟩ := r
  simp only
  generalize f1 (List.take 48 l) = x
  obtain ⟨x, o⟩ := x
  generalize f1 (List.drop 48 l) = z
  obtain ⟨z, o2⟩ := z
  simp only
  cases hx : (o != 0) with
  | true => simp only [cond_true, hx]; rfl
  | false =>
    cases hz : (o2 != 0) with
    | true => simp only [cond_true, cond_false, hz]; rfl
    | false =>
      simp only [cond_false]
      have e4 : ({ c0 := { l0 := UInt64.ofNat 4, l1 := UInt64.ofNat 0, l2 := UInt64.ofNat 0, l3 := UInt64.ofNat 0, l4 := UInt64.ofNat 0, l5 := UInt64.ofNat 0 }, c1 := { l0 := UInt64.ofNat 4, l1 := UInt64.ofNat 0, l2 := UInt64.ofNat 0, l3 := UInt64.ofNat 0, l4 := UInt64.ofNat 0, l5 := UInt64.ofNat 0 } } : Fp2) = bFp2 := rfl
      rw [e4]
      generalize f2 (f3 (f4 (f4 ⟨z, x⟩ ⟨z, x⟩) ⟨z, x⟩) bFp2) = s
      obtain ⟨y, is⟩ := s
      cases h <;> cases is <;> first
        | rfl
        | (cases hz : fp2Eq y zeroFp2 <;> rfl)
end Go.Proofs.YtbbnabednkopdaaGreat

set_option linter.unusedSimpArgs false
set_option linter.unusedVariables false
namespace Go.Proofs.YtbbnabednkopdaaGreat
open Go.RowKit
theorem u8_all {p : UInt8 → Bool} (h : (List.range 256).all (fun n => p (UInt8.ofNat n)) = true) (b : UInt8) : p b = true := by
  have := List.all_eq_true.1 h b.toNat (List.mem_range.2 b.toNat_lt)
  rwa [UInt8.ofNat_toNat] at this
theorem taken_ok {l : List UInt8} (h : (ftakeF l).2 = 0) : (ftakeF l).1.ok := by
  have key : ∀ (n : Nat) (x : Fp) (m : Bool), (m = true → x.ok) → (takeG n x m).2 = 0 → (takeG n x m).1.ok := fun n x m hm => by
    unfold takeG
    cases decide ((n : Int) < 48) with
    | true => exact fun e => absurd e int2
    | false =>
      cases decide ((n : Int) > 48) with
      | true => exact fun e => absurd e int8
      | false =>
        cases m with
        | false => exact fun e => absurd (show (4 : Int) = 0 from e) (by decide)
        | true => exact fun _ => hm rfl
  exact key _ _ _ (fun h => (mayF_ok _).1 h) h
abbrev cub1 (x : Fp) : Fp := addF (mulF (mulF x x) x) (ofF 4)
abbrev cub2 (x : Fp2) : Fp2 := addF2 (mulF2 (mulF2 x x) x) bFp2
theorem of4 : ofF 4 = bFp1 := (fpEq_iff _ _).1 (by decide +kernel)
theorem cub1_v {x : Fp} (hx : x.ok) : (cub1 x).ok ∧ (cub1 x).v = x.v * x.v * x.v + Crv.b := by
  have h1 : (mulF x x).ok := mul_ok' hx
  have h2 : (mulF (mulF x x) x).ok := mul_ok' h1
  have hb := bFp1_v
  unfold cub1
  rw [of4]
  exact ⟨add_ok' h2 hb.1, by rw [v_add h2 hb.1, v_mul h1 hx, v_mul hx hx, hb.2]⟩
theorem cub2_v {x : Fp2} (hx : x.ok) : (cub2 x).ok ∧ (cub2 x).v = x.v * x.v * x.v + Crv.b := by
  have h1 : (mulF2 x x).ok := mul_ok2 hx hx
  have h2 : (mulF2 (mulF2 x x) x).ok := mul_ok2 h1 hx
  have hb := bFp2_v
  unfold cub2
  exact ⟨add_ok2 h2 hb.1, by rw [v_add2 h2 hb.1, v_mul2 h1 hx, v_mul2 hx hx, hb.2]⟩
theorem over1 {x : Fp} (hx : x.ok) (h : (sqrtF (cub1 x)).2 = true) : (⟨x, (sqrtF (cub1 x)).1, false⟩ : Pg1).good := by
  obtain ⟨c1, c2⟩ := cub1_v hx
  refine (good1_mk hx (sqrt_ok' c1) rfl rfl ?_).1
  show _ = _
  rw [sqrt_v c1 h, c2]
theorem neg1_aff (x y : Fp) : negG1 ⟨x, y, false⟩ = ⟨x, negPF y, false⟩ := by rw [← minus1R_eq]; exact minus1R_aff rfl
theorem neg2_aff (x y : Fp2) : negG2 ⟨x, y, false⟩ = ⟨x, neg2R y, false⟩ := by rw [← minus2R_eq]; exact minus2R_aff rfl
abbrev fin1 (h : Bool) (x y : Fp) : Pg1 := cond h (negG1 ⟨x, y, false⟩) ⟨x, y, false⟩
abbrev fin2 (h : Bool) (x y : Fp2) : Pg2 := cond h (negG2 ⟨x, y, false⟩) ⟨x, y, false⟩
abbrev core1 (l : List UInt8) (h : Bool) : Pg1 × Int := coreG (ftakeF l) sqrtF cub1 (fun y => fpEq y zeroFp) fin1 inG1 pg10 h
abbrev core2 (l : List UInt8) (h : Bool) : Pg2 × Int := coreG (twoG ftakeF l) sqrtF2 cub2 (fun y => fp2Eq y zeroFp2) fin2 inG2 pg20 h
theorem take1F_val (b : List UInt8) : take1F b = takeV (bareF b 48) pg10 infG1 (core1 (bareF b 48).1 (bareF b 48).2.2.1) := take1_val bareF ftakeF sqrtF addF mulF ofF negG1 inG1 b
theorem take2F_val (b : List UInt8) : take2F b = takeV (bareF b 96) pg20 infG2 (core2 (bareF b 96).1 (bareF b 96).2.2.1) := take2_val bareF ftakeF sqrtF2 addF2 mulF2 negG2 inG2 b
end Go.Proofs.YtbbnabednkopdaaGreat

set_option linter.unusedSimpArgs false
set_option linter.unusedVariables false
namespace Go.Proofs.YtbbnabednkopdaaGreat
open Go.RowKit
theorem getD_hd (l : List UInt8) (h : 0 < l.length) (v : UInt8) : (l.set 0 v).getD 0 0 = v := by
  cases l with
  | nil => cases h
  | cons a l => rfl
theorem set_hd (l : List UInt8) : l.set 0 (l.getD 0 0) = l := by
  cases l with
  | nil => rfl
  | cons a l => rfl
theorem set_set_hd (l : List UInt8) (v w : UInt8) : (l.set 0 v).set 0 w = l.set 0 w := by
  cases l with
  | nil => rfl
  | cons a l => rfl
theorem getD_hdB (l : List UInt8) (h : 0 < l.length) (t : UInt8) : (hdB l t).getD 0 0 = l.getD 0 0 + t := getD_hd l h _
abbrev hiB (g : Bool) : UInt8 := cond g 160 128
theorem b_or (c : UInt8) : (!decide (c < 32) || (c ||| 128 == c + 128 && (c ||| 128 ||| 32 == c + 160))) = true := u8_all (p := fun c => !decide (c < 32) || (c ||| 128 == c + 128 && (c ||| 128 ||| 32 == c + 160))) (by decide +kernel) c
theorem b_hi (c : UInt8) : (!decide (c < 32) || (((c + 128) &&& UInt8.ofNat 128 == UInt8.ofNat 0) == false && ((c + 160) &&& UInt8.ofNat 128 == UInt8.ofNat 0) == false && ((c + 128) &&& UInt8.ofNat 64 != UInt8.ofNat 0) == false && ((c + 160) &&& UInt8.ofNat 64 != UInt8.ofNat 0) == false && ((c + 128) &&& UInt8.ofNat 32 != UInt8.ofNat 0) == false && ((c + 160) &&& UInt8.ofNat 32 != UInt8.ofNat 0) == true && (c + 128) &&& ~~~(UInt8.ofNat 224) == c && (c + 160) &&& ~~~(UInt8.ofNat 224) == c)) = true := u8_all (p := fun c => !decide (c < 32) || (((c + 128) &&& UInt8.ofNat 128 == UInt8.ofNat 0) == false && ((c + 160) &&& UInt8.ofNat 128 == UInt8.ofNat 0) == false && ((c + 128) &&& UInt8.ofNat 64 != UInt8.ofNat 0) == false && ((c + 160) &&& UInt8.ofNat 64 != UInt8.ofNat 0) == false && ((c + 128) &&& UInt8.ofNat 32 != UInt8.ofNat 0) == false && ((c + 160) &&& UInt8.ofNat 32 != UInt8.ofNat 0) == true && (c + 128) &&& ~~~(UInt8.ofNat 224) == c && (c + 160) &&& ~~~(UInt8.ofNat 224) == c)) (by decide +kernel) c
theorem mark_hd {l : List UInt8} (h0 : 0 < l.length) (hc : l.getD 0 0 < 32) (g : Bool) : markF l (false, g, ()) = hdB l (hiB g) := by
  have h := b_or (l.getD 0 0)
  rw [decide_eq_true hc, Bool.not_true, Bool.false_or, Bool.and_eq_true] at h
  have h1 := eq_of_beq h.1
  have h2 := eq_of_beq h.2
  cases g with
  | false =>
    show l.set 0 (l.getD 0 0 ||| 128) = _
    rw [h1]
    rfl
  | true =>
    show (l.set 0 (l.getD 0 0 ||| 128)).set 0 ((l.set 0 (l.getD 0 0 ||| 128)).getD 0 0 ||| 32) = _
    rw [getD_hd l h0, set_set_hd, h2]
    rfl
theorem bare_hd {l : List UInt8} {n : Int} (hl : (l.length : Int) = n) (h0 : 0 < l.length) (hc : l.getD 0 0 < 32) (g : Bool) : bareF (hdB l (hiB g)) n = (l, false, g, 0) := by
  have h := b_hi (l.getD 0 0)
  rw [decide_eq_true hc, Bool.not_true, Bool.false_or] at h
  simp only [Bool.and_eq_true] at h
  obtain ⟨⟨⟨⟨⟨⟨⟨a1, a2⟩, a3⟩, a4⟩, a5⟩, a6⟩, a7⟩, a8⟩ := h
  have e1 : bit7 (hdB l (hiB g)) = false := by
    unfold bit7
    rw [getD_hdB l h0]
    cases g
    · exact eq_of_beq a1
    · exact eq_of_beq a2
  have e2 : bit6 (hdB l (hiB g)) = false := by
    unfold bit6
    rw [getD_hdB l h0]
    cases g
    · exact eq_of_beq a3
    · exact eq_of_beq a4
  have e3 : bit5 (hdB l (hiB g)) = g := by
    unfold bit5
    rw [getD_hdB l h0]
    cases g
    · exact eq_of_beq a5
    · exact eq_of_beq a6
  have e4 : bareL (hdB l (hiB g)) = l := by
    unfold bareL
    rw [getD_hdB l h0]
    unfold hdB
    rw [set_set_hd]
    cases g
    · exact (congrArg (l.set 0) (eq_of_beq a7)).trans (set_hd l)
    · exact (congrArg (l.set 0) (eq_of_beq a8)).trans (set_hd l)
  unfold bareF
  rw [e1, e2, e3, e4, hdB_len, decide_eq_false (show ¬ (l.length : Int) < n by omega), decide_eq_false (show ¬ (l.length : Int) > n by omega)]
  rfl
theorem pN_top : pN < 32 * 256 ^ 47 := by decide +kernel
theorem top_low {x : Fp} (hx : x.ok) : (fputF x).getD 0 0 < 32 := by
  have hl : (cutF x.list).length ≤ 6 := Nat.le_trans (cutF_len x.list) (Nat.le_of_eq (fp_short x))
  have hv : bsum (cutF x.list) 48 = x.nat := by rw [show (48 : Nat) = 8 * 6 from rfl, bsum_val, valAt_out _ hl, valL_cut, valL_list]
  have hh : (fputF x).getD 0 0 = byteAt (cutF x.list) 47 := by
    rw [fput_full]
    exact bAt_full (cutF x.list) (n := 48) (t := 0) (by decide)
  have hs : bsum (cutF x.list) 48 = bsum (cutF x.list) 47 + (byteAt (cutF x.list) 47).toNat * 256 ^ 47 := rfl
  rw [hh]
  show (byteAt (cutF x.list) 47).toNat < 32
  have hx : x.nat < pN := hx
  have hp := pN_top
  generalize (256 : Nat) ^ 47 = q at *
  generalize (byteAt (cutF x.list) 47).toNat = c at *
  rcases Nat.lt_or_ge c 32 with h | h
  · exact h
  · have := Nat.mul_le_mul_right q h
    omega
theorem fput_pos (x : Fp) : 0 < (fputF x).length := by rw [fput_len']; decide
theorem two_top {x : Fp2} (hx : x.ok) : (fputF x.c1 ++ fputF x.c0).getD 0 0 < 32 := by
  have h := top_low hx.2
  have h0 := fput_pos x.c1
  generalize fputF x.c1 = l at *
  cases l with
  | nil => cases h0
  | cons a l => exact h
theorem two_len (x : Fp2) : (fputF x.c1 ++ fputF x.c0).length = 96 := by rw [List.length_append, fput_len', fput_len']
theorem two_pos (x : Fp2) : 0 < (fputF x.c1 ++ fputF x.c0).length := by rw [two_len]; decide
theorem twoG_put {x : Fp2} (hx : x.ok) : twoG ftakeF (fputF x.c1 ++ fputF x.c0) = (x, 0) := by
  unfold twoG
  rw [List.take_left' (fput_len' x.c1), List.drop_left' (fput_len' x.c1), take_put hx.1, take_put hx.2]
  rfl
abbrev put1B (x : Fp) : List UInt8 := fputF x
abbrev put2B (x : Fp2) : List UInt8 := fputF x.c1 ++ fputF x.c0
theorem put1B_ok {x : Fp} (hx : x.ok) : ((put1B x).length : Int) = 48 ∧ 0 < (put1B x).length ∧ (put1B x).getD 0 0 < 32 ∧ ftakeF (put1B x) = (x, 0) := ⟨by rw [show (put1B x).length = 48 from fput_len' x]; rfl, fput_pos x, top_low hx, take_put hx⟩
theorem put2B_ok {x : Fp2} (hx : x.ok) : ((put2B x).length : Int) = 96 ∧ 0 < (put2B x).length ∧ (put2B x).getD 0 0 < 32 ∧ twoG ftakeF (put2B x) = (x, 0) := ⟨by rw [show (put2B x).length = 96 from two_len x]; rfl, two_pos x, two_top hx, twoG_put hx⟩
theorem fr1 {a : Fp} (ha : a.ok) (h : a.v ≠ 0) : greatF (negF a) = !greatF a := great_neg ha h
theorem fr2 {a : Fp2} (ha : a.ok) (h : a.v ≠ 0) : greatF2 (negF2 a) = !greatF2 a := by rw [greatF2_eq, greatF2_eq]; exact great_neg2 ha h
theorem isz1 {a : Fp} (ha : a.ok) (h : a.v ≠ 0) : fpEq a zeroFp = false := (fpEq_nonzero ha).2 h
theorem isz2 {a : Fp2} (ha : a.ok) (h : a.v ≠ 0) : fp2Eq a zeroFp2 = false := by
  cases h2 : fp2Eq a zeroFp2 with
  | false => rfl
  | true => exact absurd ((v_eq_zero2 ha).2 ((fp2Eq_iff _ _).1 h2)) h
theorem rt1 {a : Fp} (ha : a.ok) (h : ∃ y : V1, y * y = a.v) : (sqrtF a).2 = true ∧ (sqrtF a).1.ok ∧ (sqrtF a).1.v * (sqrtF a).1.v = a.v ∧ greatF (sqrtF a).1 = false := (sqrt_law ha).1 h
theorem rt2 {a : Fp2} (ha : a.ok) (h : ∃ y : V2, y * y = a.v) : (sqrtF2 a).2 = true ∧ (sqrtF2 a).1.ok ∧ (sqrtF2 a).1.v * (sqrtF2 a).1.v = a.v ∧ greatF2 (sqrtF2 a).1 = false := by
  rcases sqrt_root2 ha with ⟨_, h0, h1, h2, h3⟩ | ⟨h1, _⟩
  · exact ⟨h0, h1, h2, by rw [greatF2_eq]; exact h3⟩
  · exact absurd h h1
theorem ng1 {a : Fp} (ha : a.ok) : (negF a).ok ∧ (negF a).v = -a.v := ⟨neg_ok' ha, v_neg ha⟩
theorem ng2 {a : Fp2} (ha : a.ok) : (negF2 a).ok ∧ (negF2 a).v = -a.v := ⟨neg_ok2 ha, v_neg2 ha⟩
theorem inj1 {a b : Fp} (ha : a.ok) (hb : b.ok) (h : a.v = b.v) : a = b := Fp.v_inj ha hb h
theorem inj2 {a b : Fp2} (ha : a.ok) (hb : b.ok) (h : a.v = b.v) : a = b := Fp2.v_inj ha hb h
theorem sq_eq {K : Type} [Fld K] {a b : K} (h : a * a = b * b) : a = b ∨ a = -b := by
  by_cases h1 : a = b
  · exact .inl h1
  · right
    have h2 : (a - b) * (a + b) = 0 := by grind
    have h3 : a - b ≠ 0 := fun e => h1 (by grind)
    have h4 := mul_eq_zero' h2
    rcases h4 with h4 | h4
    · exact absurd h4 h3
    · grind
theorem takeV_inf {P : Type} (l : List UInt8) (g : Bool) (z i : P) (c : P × Int) : takeV (l, true, g, 0) z i c = (i, 0) := rfl
theorem takeV_go {P : Type} (l : List UInt8) (g : Bool) (z i : P) (c : P × Int) : takeV (l, false, g, 0) z i c = c := rfl
theorem ff_beq : (false == false) = true := rfl
theorem ft_beq : (false == true) = false := rfl
theorem tf_beq : (true == false) = false := rfl
theorem tt_beq : (true == true) = true := rfl
theorem pair_eq {X : Type} {s : X × Bool} {y : X} (h1 : s.1 = y) (h2 : s.2 = true) : s = (y, true) := by
  obtain ⟨a, b⟩ := s
  obtain rfl : a = y := h1
  obtain rfl : b = true := h2
  rfl
theorem coreG_at {X P : Type} {xo : X × Int} {sF : X → X × Bool} {cub : X → X} {isz : X → Bool} {fin : Bool → X → X → P} {inF : P → Bool} {z : P} {high : Bool} {x s : X} {p : P} (hx : xo = (x, 0)) (hs : sF (cub x) = (s, true)) (hz : isz s = false) (hf : fin high x s = p) (hin : inF p = true) : coreG xo sF cub isz fin inF z high = (p, 0) := by
  subst hx
  unfold coreG
  simp only
  rw [hs]
  simp only
  rw [hz, hf, hin, Bool.and_false]
  rfl
theorem neg_aff1 (x y : Fp) : negG1 ⟨x, y, false⟩ = ⟨x, negF y, false⟩ := by rw [neg1_aff, negPF_eq]
theorem neg_aff2 (x y : Fp2) : negG2 ⟨x, y, false⟩ = ⟨x, negF2 y, false⟩ := by rw [neg2_aff, neg2R_eq]
theorem y_ne1 {x y : Fp} (h : (⟨x, y, false⟩ : Pg1).good) : y.v ≠ 0 := fun e => by
  have h1 : y.v * y.v = x.v * x.v * x.v + Crv.b := h.2
  rw [e] at h1
  exact Crv.no x.v (by rw [← h1]; exact CR.zero_mul _)
theorem oks1 {x y : Fp} (h : (⟨x, y, false⟩ : Pg1).good) : x.ok ∧ y.ok := by
  rcases h.1 with e | e
  · cases e
  · exact e.2
theorem negneg1 {y : Fp} (hy : y.ok) : negF (negF y) = y := by
  have h1 := ng1 hy
  have h2 := ng1 h1.1
  exact inj1 h2.1 hy (by rw [h2.2, h1.2]; grind)
theorem root_of1 {x y : Fp} (h : (⟨x, y, false⟩ : Pg1).good) : (sqrtF (cub1 x)).2 = true ∧ (sqrtF (cub1 x)).1 = cond (greatF y) (negF y) y := by
  obtain ⟨hx, hy⟩ := oks1 h
  have h0 := y_ne1 h
  have h1 : y.v * y.v = x.v * x.v * x.v + Crv.b := h.2
  obtain ⟨c1, c2⟩ := cub1_v hx
  obtain ⟨r1, r2, r3, r4⟩ := rt1 c1 ⟨y.v, by rw [h1, c2]⟩
  refine ⟨r1, ?_⟩
  rw [c2, ← h1] at r3
  have hn := ng1 hy
  rcases sq_eq r3 with e | e
  · have e := inj1 r2 hy e
    rw [e] at r4
    rw [r4, e, cond_false]
  · have e := inj1 r2 hn.1 (by rw [e, hn.2])
    rw [e, fr1 hy h0] at r4
    have r4 : greatF y = true := by
      cases hg : greatF y with
      | true => rfl
      | false => rw [hg] at r4; cases r4
    rw [r4, e, cond_true]
theorem finAt1 (g h : Bool) (x : Fp) {y : Fp} (hy : y.ok) : fin1 g x (cond h (negF y) y) = cond (g == h) ⟨x, y, false⟩ ⟨x, negF y, false⟩ := by
  unfold fin1
  cases g <;> cases h
  · rw [ff_beq, cond_true, cond_false, cond_false]
  · rw [ft_beq, cond_true, cond_false, cond_false]
  · rw [tf_beq, cond_false, cond_false, cond_true, neg_aff1]
  · rw [tt_beq, cond_true, cond_true, cond_true, neg_aff1, negneg1 hy]
theorem in_of1 {p : Pg1} (h : p.good) (hi : p.pt.mul qN = .inf) : inG1 p = true := (in1_iff _).2 ⟨h, hi⟩
theorem neg_sub1 {p : Pg1} (h : p.good) (hi : p.pt.mul qN = .inf) : (negG1 p).good ∧ (negG1 p).pt.mul qN = .inf := by
  obtain ⟨n1, n2⟩ := neg1_pt h
  exact ⟨n1, by rw [n2, neg_mul_pt h.2, hi]; rfl⟩
theorem in_cond1 {x y : Fp} (h : (⟨x, y, false⟩ : Pg1).good) (hi : (⟨x, y, false⟩ : Pg1).pt.mul qN = .inf) (c : Bool) : inG1 (cond c ⟨x, y, false⟩ ⟨x, negF y, false⟩) = true := by
  cases c
  · rw [cond_false, ← neg_aff1]
    obtain ⟨h1, h2⟩ := neg_sub1 h hi
    exact in_of1 h1 h2
  · rw [cond_true]
    exact in_of1 h hi
theorem isz_cond1 {y : Fp} (hy : y.ok) (h0 : y.v ≠ 0) (c : Bool) : fpEq (cond c (negF y) y) zeroFp = false := by
  have hn := ng1 hy
  cases c
  · rw [cond_false]
    exact isz1 hy h0
  · rw [cond_true]
    exact isz1 hn.1 fun e => h0 (by rw [hn.2] at e; grind)
theorem core_at1 {x y : Fp} (h : (⟨x, y, false⟩ : Pg1).good) (hi : (⟨x, y, false⟩ : Pg1).pt.mul qN = .inf) {l : List UInt8} (hl : ftakeF l = (x, 0)) (g : Bool) : core1 l g = (cond (g == greatF y) ⟨x, y, false⟩ ⟨x, negF y, false⟩, 0) := by
  obtain ⟨r1, r2⟩ := root_of1 h
  exact coreG_at hl (pair_eq r2 r1) (isz_cond1 (oks1 h).2 (y_ne1 h) _) (finAt1 g _ x (oks1 h).2) (in_cond1 h hi _)
theorem put1_hd {x y : Fp} (hx : x.ok) : put1F ⟨x, y, false⟩ = hdB (put1B x) (hiB (greatF y)) := by
  obtain ⟨h1, h2, h3, h4⟩ := put1B_ok hx
  rw [put1F_val]
  exact mark_hd h2 h3 _
theorem bare_inf1 : bareF inf1B 48 = (List.replicate 48 0, true, false, 0) := by decide +kernel
theorem take_inf1 : take1F inf1B = (infG1, 0) := by
  rw [take1F_val, bare_inf1]
  exact takeV_inf _ _ _ _ _
theorem read1 {p : Pg1} (hp : p.good) (hi : p.pt.mul qN = .inf) : take1F (put1F p) = (p, 0) := by
  cases hj : p.inf with
  | true =>
    obtain rfl := ok_inf1 hp.1 hj
    exact take_inf1
  | false =>
    obtain ⟨x, y, i⟩ := p
    obtain rfl : i = false := hj
    have hx := (oks1 hp).1
    obtain ⟨h1, h2, h3, h4⟩ := put1B_ok hx
    rw [put1_hd hx, take1F_val, bare_hd h1 h2 h3]
    refine (takeV_go _ _ _ _ _).trans ?_
    rw [core_at1 hp hi h4, beq_self_eq_true, cond_true]
theorem y_ne2 {x y : Fp2} (h : (⟨x, y, false⟩ : Pg2).good) : y.v ≠ 0 := fun e => by
  have h1 : y.v * y.v = x.v * x.v * x.v + Crv.b := h.2
  rw [e] at h1
  exact Crv.no x.v (by rw [← h1]; exact CR.zero_mul _)
theorem oks2 {x y : Fp2} (h : (⟨x, y, false⟩ : Pg2).good) : x.ok ∧ y.ok := by
  rcases h.1 with e | e
  · cases e
  · exact e.2
theorem negneg2 {y : Fp2} (hy : y.ok) : negF2 (negF2 y) = y := by
  have h1 := ng2 hy
  have h2 := ng2 h1.1
  exact inj2 h2.1 hy (by rw [h2.2, h1.2]; grind)
theorem root_of2 {x y : Fp2} (h : (⟨x, y, false⟩ : Pg2).good) : (sqrtF2 (cub2 x)).2 = true ∧ (sqrtF2 (cub2 x)).1 = cond (greatF2 y) (negF2 y) y := by
  obtain ⟨hx, hy⟩ := oks2 h
  have h0 := y_ne2 h
  have h1 : y.v * y.v = x.v * x.v * x.v + Crv.b := h.2
  obtain ⟨c1, c2⟩ := cub2_v hx
  obtain ⟨r1, r2, r3, r4⟩ := rt2 c1 ⟨y.v, by rw [h1, c2]⟩
  refine ⟨r1, ?_⟩
  rw [c2, ← h1] at r3
  have hn := ng2 hy
  rcases sq_eq r3 with e | e
  · have e := inj2 r2 hy e
    rw [e] at r4
    rw [r4, e, cond_false]
  · have e := inj2 r2 hn.1 (by rw [e, hn.2])
    rw [e, fr2 hy h0] at r4
    have r4 : greatF2 y = true := by
      cases hg : greatF2 y with
      | true => rfl
      | false => rw [hg] at r4; cases r4
    rw [r4, e, cond_true]
theorem finAt2 (g h : Bool) (x : Fp2) {y : Fp2} (hy : y.ok) : fin2 g x (cond h (negF2 y) y) = cond (g == h) ⟨x, y, false⟩ ⟨x, negF2 y, false⟩ := by
  unfold fin2
  cases g <;> cases h
  · rw [ff_beq, cond_true, cond_false, cond_false]
  · rw [ft_beq, cond_true, cond_false, cond_false]
  · rw [tf_beq, cond_false, cond_false, cond_true, neg_aff2]
  · rw [tt_beq, cond_true, cond_true, cond_true, neg_aff2, negneg2 hy]
theorem in_of2 {p : Pg2} (h : p.good) (hi : p.pt.mul qN = .inf) : inG2 p = true := (in2_iff _).2 ⟨h, hi⟩
theorem neg_sub2 {p : Pg2} (h : p.good) (hi : p.pt.mul qN = .inf) : (negG2 p).good ∧ (negG2 p).pt.mul qN = .inf := by
  obtain ⟨n1, n2⟩ := neg2_pt h
  exact ⟨n1, by rw [n2, neg_mul_pt h.2, hi]; rfl⟩
theorem in_cond2 {x y : Fp2} (h : (⟨x, y, false⟩ : Pg2).good) (hi : (⟨x, y, false⟩ : Pg2).pt.mul qN = .inf) (c : Bool) : inG2 (cond c ⟨x, y, false⟩ ⟨x, negF2 y, false⟩) = true := by
  cases c
  · rw [cond_false, ← neg_aff2]
    obtain ⟨h1, h2⟩ := neg_sub2 h hi
    exact in_of2 h1 h2
  · rw [cond_true]
    exact in_of2 h hi
theorem isz_cond2 {y : Fp2} (hy : y.ok) (h0 : y.v ≠ 0) (c : Bool) : fp2Eq (cond c (negF2 y) y) zeroFp2 = false := by
  have hn := ng2 hy
  cases c
  · rw [cond_false]
    exact isz2 hy h0
  · rw [cond_true]
    exact isz2 hn.1 fun e => h0 (by rw [hn.2] at e; grind)
theorem core_at2 {x y : Fp2} (h : (⟨x, y, false⟩ : Pg2).good) (hi : (⟨x, y, false⟩ : Pg2).pt.mul qN = .inf) {l : List UInt8} (hl : twoG ftakeF l = (x, 0)) (g : Bool) : core2 l g = (cond (g == greatF2 y) ⟨x, y, false⟩ ⟨x, negF2 y, false⟩, 0) := by
  obtain ⟨r1, r2⟩ := root_of2 h
  exact coreG_at hl (pair_eq r2 r1) (isz_cond2 (oks2 h).2 (y_ne2 h) _) (finAt2 g _ x (oks2 h).2) (in_cond2 h hi _)
theorem put2_hd {x y : Fp2} (hx : x.ok) : put2F ⟨x, y, false⟩ = hdB (put2B x) (hiB (greatF2 y)) := by
  obtain ⟨h1, h2, h3, h4⟩ := put2B_ok hx
  rw [put2F_val]
  exact mark_hd h2 h3 _
theorem bare_inf2 : bareF inf2B 96 = (List.replicate 96 0, true, false, 0) := by decide +kernel
theorem take_inf2 : take2F inf2B = (infG2, 0) := by
  rw [take2F_val, bare_inf2]
  exact takeV_inf _ _ _ _ _
theorem read2 {p : Pg2} (hp : p.good) (hi : p.pt.mul qN = .inf) : take2F (put2F p) = (p, 0) := by
  cases hj : p.inf with
  | true =>
    obtain rfl := ok_inf2 hp.1 hj
    exact take_inf2
  | false =>
    obtain ⟨x, y, i⟩ := p
    obtain rfl : i = false := hj
    have hx := (oks2 hp).1
    obtain ⟨h1, h2, h3, h4⟩ := put2B_ok hx
    rw [put2_hd hx, take2F_val, bare_hd h1 h2 h3]
    refine (takeV_go _ _ _ _ _).trans ?_
    rw [core_at2 hp hi h4, beq_self_eq_true, cond_true]
end Go.Proofs.YtbbnabednkopdaaGreat

set_option linter.unusedSimpArgs false
set_option linter.unusedVariables false
namespace Go.Proofs.YtbbnabednkopdaaGreat
open Go.RowKit
theorem begun10_L {g1 : Pg1} {p1 : Pg1 → List UInt8} {t1 : List UInt8 → Pg1 × Int} {g2 : Pg2} {p2 : Pg2 → List UInt8} {t2 : List UInt8 → Pg2 × Int} (h1 : t1 (p1 g1) = (g1, 0)) (h2 : t2 (p2 g2) = (g2, 0)) : (begun10_T g1 p1 t1 g2 p2 t2).outD false = true := by
  unfold begun10_T
  simp only [outD_br, outD_vc, outD_leaf, List.drop_zero, List.take_length, h1, h2, (pg1Eq_iff g1 g1).2 rfl, beq_self_eq_true, Bool.and_true, cond_true]
theorem begun10_true : begun10 = true := begun10_L (read1 gen1_good gen1_order) (read2 gen2_good gen2_order)
end Go.Proofs.YtbbnabednkopdaaGreat

set_option linter.unusedSimpArgs false
set_option linter.unusedVariables false
namespace Go.Proofs.YtbbnabednkopdaaGreat
open Go.RowKit
theorem gt1 (k : Fr) : (times1R gen1R k).good ∧ (times1R gen1R k).pt = oneG1.pt.mul k.nat ∧ (times1R gen1R k).pt.mul qN = .inf := by
  obtain ⟨h1, h2⟩ := times1R_pt gen1_good k
  exact ⟨h1, h2, by rw [show times1R gen1R k = times1R oneG1 k from rfl, h2, ← mul_mul_pt gen1_good.2, Nat.mul_comm, mul_mul_pt gen1_good.2, gen1_order, mul_inf_pt]⟩
end Go.Proofs.YtbbnabednkopdaaGreat

set_option linter.unusedSimpArgs false
set_option linter.unusedVariables false
set_option maxRecDepth 100000
namespace Go.Proofs.YtbbnabednkopdaaGreat
open Go.RowKit
def ptBack_T (f0 : Bool) (f1 : Fr → Bool) (f2 : Pg1 → Fr → Pg1) (f3 : Pg1) (f4 : Pg1 → List UInt8) (f5 : List UInt8 → Pg1 × Int) (f6 : Int → Int → Int) (k : Fr) (pl : Int) (x : UInt8) (cut : Int) : Tree (Option ((Bool) × Pr)) :=
  (.br (!(f0))
    (.leaf (some ((false, .t))))
    (.br (!(f1 k))
      (.leaf (some ((true, .t))))
      (.vc (0 + (f4 (f2 f3 k)).length * 1 ≤ (List.map EK.u8.cell (f4 (f2 f3 k))).length ∧ 0 < 1)
        (.br ((↑(f4 (f2 f3 k)).length : Int) != 48)
          (.leaf (some ((false, .t))))
          (.vc ((0 + (f4 (f2 f3 k)).length ≤ (f4 (f2 f3 k)).length ∧ (f4 (f2 f3 k)).length < 1125899906842624 ∧ 0 = 0 ∧ 1 = 1) ∧ littleB (List.take (f4 (f2 f3 k)).length (List.drop 0 (f4 (f2 f3 k)))))
            (.vc (0 + (f4 (f2 f3 k)).length ≤ (f4 (f2 f3 k)).length ∧ 0 + (f4 (f2 f3 k)).length ≤ 9223372036854775807 ∧ (0 + (f4 (f2 f3 k)).length) * 1 ≤ 140737488355328)
              (.vc ((0 ≤ f6 pl 48 ∧ f6 pl 48 < (↑(0 + (f4 (f2 f3 k)).length) : Int)) ∧ 0 + (0 + (f4 (f2 f3 k)).length) * 1 ≤ (List.map EK.u8.cell ([] ++ List.take (f4 (f2 f3 k)).length (List.drop 0 (f4 (f2 f3 k))))).length ∧ 0 < 1)
                (.vc (0 + (f6 pl 48).toNat * 1 < ([] ++ List.take (f4 (f2 f3 k)).length (List.drop 0 (f4 (f2 f3 k)))).length)
                  (.vc ((0 ≤ f6 pl 48 ∧ f6 pl 48 < (↑(0 + (f4 (f2 f3 k)).length) : Int)) ∧ 0 + (0 + (f4 (f2 f3 k)).length) * 1 ≤ (List.map EK.u8.cell ([] ++ List.take (f4 (f2 f3 k)).length (List.drop 0 (f4 (f2 f3 k))))).length ∧ 0 < 1)
                    (.vc (0 + (f6 pl 48).toNat * 1 < ([] ++ List.take (f4 (f2 f3 k)).length (List.drop 0 (f4 (f2 f3 k)))).length)
                      (.vc ((0 + (0 + (f4 (f2 f3 k)).length) ≤ (([] ++ List.take (f4 (f2 f3 k)).length (List.drop 0 (f4 (f2 f3 k)))).set (0 + (f6 pl 48).toNat * 1) (([] ++ List.take (f4 (f2 f3 k)).length (List.drop 0 (f4 (f2 f3 k)))).getD (0 + (f6 pl 48).toNat * 1) 0 ^^^ x)).length ∧ 0 + (f4 (f2 f3 k)).length < 1125899906842624 ∧ 0 = 0 ∧ 1 = 1) ∧ littleB (List.take (0 + (f4 (f2 f3 k)).length) (List.drop 0 (([] ++ List.take (f4 (f2 f3 k)).length (List.drop 0 (f4 (f2 f3 k)))).set (0 + (f6 pl 48).toNat * 1) (([] ++ List.take (f4 (f2 f3 k)).length (List.drop 0 (f4 (f2 f3 k)))).getD (0 + (f6 pl 48).toNat * 1) 0 ^^^ x)))))
                        (.vc (0 ≤ f6 cut 48 ∧ 0 ≤ (f6 cut 48).toNat ∧ (f6 cut 48).toNat ≤ (f4 (f2 f3 k)).length ∧ 0 + (f4 (f2 f3 k)).length * 1 ≤ (List.map EK.u8.cell (f4 (f2 f3 k))).length ∧ 0 < 1 ∧ (0 = 0 ∨ 0 < (f6 cut 48).toNat) ∧ 0 = 0 ∧ 1 = 1)
                          (.vc ((0 + ((f6 cut 48).toNat - 0) ≤ (f4 (f2 f3 k)).length ∧ (f6 cut 48).toNat - 0 < 1125899906842624 ∧ 0 = 0 ∧ 1 = 1) ∧ littleB (List.take ((f6 cut 48).toNat - 0) (List.drop 0 (f4 (f2 f3 k)))))
                            (.vc (0 + (f4 (f2 f3 k)).length ≤ (f4 (f2 f3 k)).length ∧ 0 + (f4 (f2 f3 k)).length ≤ 9223372036854775807 ∧ (0 + (f4 (f2 f3 k)).length) * 1 ≤ 140737488355328)
                              (.vc (0 + (0 + (f4 (f2 f3 k)).length) ≤ ([] ++ List.take (f4 (f2 f3 k)).length (List.drop 0 (f4 (f2 f3 k)))).length ∧ 0 + (f4 (f2 f3 k)).length + 1 ≤ 9223372036854775807 ∧ (0 + (f4 (f2 f3 k)).length + 1) * 1 ≤ 140737488355328)
                                (.vc ((0 + (0 + (f4 (f2 f3 k)).length + 1) ≤ (List.take (0 + (f4 (f2 f3 k)).length) (List.drop 0 ([] ++ List.take (f4 (f2 f3 k)).length (List.drop 0 (f4 (f2 f3 k))))) ++ [x]).length ∧ 0 + (f4 (f2 f3 k)).length + 1 < 1125899906842624 ∧ 0 = 0 ∧ 1 = 1) ∧ littleB (List.take (0 + (f4 (f2 f3 k)).length + 1) (List.drop 0 (List.take (0 + (f4 (f2 f3 k)).length) (List.drop 0 ([] ++ List.take (f4 (f2 f3 k)).length (List.drop 0 (f4 (f2 f3 k))))) ++ [x]))))
                                  (.br ((f5 (List.take (f4 (f2 f3 k)).length (List.drop 0 (f4 (f2 f3 k))))).snd == 0)
                                    (.br (pg1Eq ((f5 (List.take (f4 (f2 f3 k)).length (List.drop 0 (f4 (f2 f3 k))))).fst) (f2 f3 k))
                                      (.br ((f5 (List.take (0 + (f4 (f2 f3 k)).length) (List.drop 0 (([] ++ List.take (f4 (f2 f3 k)).length (List.drop 0 (f4 (f2 f3 k)))).set (0 + (f6 pl 48).toNat * 1) (([] ++ List.take (f4 (f2 f3 k)).length (List.drop 0 (f4 (f2 f3 k)))).getD (0 + (f6 pl 48).toNat * 1) 0 ^^^ x))))).snd != 0)
                                        (.br ((f5 (List.take ((f6 cut 48).toNat - 0) (List.drop 0 (f4 (f2 f3 k))))).snd == 2)
                                          (.leaf (some (((f5 (List.take (0 + (f4 (f2 f3 k)).length + 1) (List.drop 0 (List.take (0 + (f4 (f2 f3 k)).length) (List.drop 0 ([] ++ List.take (f4 (f2 f3 k)).length (List.drop 0 (f4 (f2 f3 k))))) ++ [x])))).snd == 8, .t))))
                                          (.leaf (some ((false, .t)))))
                                        (.vc (0 + (f4 (f5 (List.take (0 + (f4 (f2 f3 k)).length) (List.drop 0 (([] ++ List.take (f4 (f2 f3 k)).length (List.drop 0 (f4 (f2 f3 k)))).set (0 + (f6 pl 48).toNat * 1) (([] ++ List.take (f4 (f2 f3 k)).length (List.drop 0 (f4 (f2 f3 k)))).getD (0 + (f6 pl 48).toNat * 1) 0 ^^^ x))))).fst).length ≤ (f4 (f5 (List.take (0 + (f4 (f2 f3 k)).length) (List.drop 0 (([] ++ List.take (f4 (f2 f3 k)).length (List.drop 0 (f4 (f2 f3 k)))).set (0 + (f6 pl 48).toNat * 1) (([] ++ List.take (f4 (f2 f3 k)).length (List.drop 0 (f4 (f2 f3 k)))).getD (0 + (f6 pl 48).toNat * 1) 0 ^^^ x))))).fst).length)
                                          (.vc (0 + (0 + (f4 (f2 f3 k)).length) ≤ (([] ++ List.take (f4 (f2 f3 k)).length (List.drop 0 (f4 (f2 f3 k)))).set (0 + (f6 pl 48).toNat * 1) (([] ++ List.take (f4 (f2 f3 k)).length (List.drop 0 (f4 (f2 f3 k)))).getD (0 + (f6 pl 48).toNat * 1) 0 ^^^ x)).length)
                                            (.br (List.take (f4 (f5 (List.take (0 + (f4 (f2 f3 k)).length) (List.drop 0 (([] ++ List.take (f4 (f2 f3 k)).length (List.drop 0 (f4 (f2 f3 k)))).set (0 + (f6 pl 48).toNat * 1) (([] ++ List.take (f4 (f2 f3 k)).length (List.drop 0 (f4 (f2 f3 k)))).getD (0 + (f6 pl 48).toNat * 1) 0 ^^^ x))))).fst).length (List.drop 0 (f4 (f5 (List.take (0 + (f4 (f2 f3 k)).length) (List.drop 0 (([] ++ List.take (f4 (f2 f3 k)).length (List.drop 0 (f4 (f2 f3 k)))).set (0 + (f6 pl 48).toNat * 1) (([] ++ List.take (f4 (f2 f3 k)).length (List.drop 0 (f4 (f2 f3 k)))).getD (0 + (f6 pl 48).toNat * 1) 0 ^^^ x))))).fst)) == List.take (0 + (f4 (f2 f3 k)).length) (List.drop 0 (([] ++ List.take (f4 (f2 f3 k)).length (List.drop 0 (f4 (f2 f3 k)))).set (0 + (f6 pl 48).toNat * 1) (([] ++ List.take (f4 (f2 f3 k)).length (List.drop 0 (f4 (f2 f3 k)))).getD (0 + (f6 pl 48).toNat * 1) 0 ^^^ x))))
                                              (.br ((f5 (List.take ((f6 cut 48).toNat - 0) (List.drop 0 (f4 (f2 f3 k))))).snd == 2)
                                                (.leaf (some (((f5 (List.take (0 + (f4 (f2 f3 k)).length + 1) (List.drop 0 (List.take (0 + (f4 (f2 f3 k)).length) (List.drop 0 ([] ++ List.take (f4 (f2 f3 k)).length (List.drop 0 (f4 (f2 f3 k))))) ++ [x])))).snd == 8, .t))))
                                                (.leaf (some ((false, .t)))))
                                              (.leaf (some ((false, .t))))))))
                                      (.leaf (some ((false, .t)))))
                                    (.leaf (some ((false, .t)))))))))))))))))))))
theorem ptBack_run (f0 : Bool) (f1 : Fr → Bool) (f2 : Pg1 → Fr → Pg1) (f3 : Pg1) (f4 : Pg1 → List UInt8) (f5 : List UInt8 → Pg1 × Int) (f6 : Int → Int → Int) (k : Fr) (pl : Int) (x : UInt8) (cut : Int) : endT (Ens [(34, K0  kBool.rs.out.res f0), (14, Krb f1), (35, K2 (kRow Pg1).arg (kRow Fr).arg (kRow Pg1).rs.res f2), (23, K0 (kRow Pg1).rs.res f3), (40, K1 kg1.arg rB f4), (44, K1 aBs ((kRow Pg1).rs2 kInt).out.res f5), (48, K2 kInt.arg kInt.arg kInt.rs.out.res f6)] [40]) kBool.rs.out 300 Tryz.f10 (flat (codeOf Tryz.f10)) (startSt Tryz.f10 [.one ((kRow Fr).av k), .one (kInt.av pl), .one (kU8.av x), .one (kInt.av cut)] []) = ptBack_T f0 f1 f2 f3 f4 f5 f6 k pl x cut := by kernel_rfl
def ptBack (k : Fr) (pl : Int) (x : UInt8) (cut : Int) : Bool := (ptBack_T begun10 mayRF times1R gen1R put1F take1F placeF k pl x cut).outD false
theorem ptBack_gives' (k : Fr) (pl : Int) (x : UInt8) (cut : Int) (h : (ptBack_T begun10 mayRF times1R gen1R put1F take1F placeF k pl x cut).full = true ∧ (ptBack_T begun10 mayRF times1R gen1R put1F take1F placeF k pl x cut).okAll) (w : World) : Gives Tryz.prog 10 ((KdL.cons (kRow Fr) (KdL.cons kInt (KdL.cons kU8 (KdL.cons kInt KdL.nil)))).vals (k, pl, x, cut, ())).toArray w kBool.rs.out.res (ptBack k pl x cut) :=
  ends_gives3 (E := Ens [(34, K0  kBool.rs.out.res begun10), (14, Krb mayRF), (35, K2 (kRow Pg1).arg (kRow Fr).arg (kRow Pg1).rs.res times1R), (23, K0 (kRow Pg1).rs.res gen1R), (40, K1 kg1.arg rB put1F), (44, K1 aBs ((kRow Pg1).rs2 kInt).out.res take1F), (48, K2 kInt.arg kInt.arg kInt.rs.out.res placeF)] [40]) Tryz.func10 (c := codeOf Tryz.f10) (by kernel_rfl) (KdL.cons (kRow Fr) (KdL.cons kInt (KdL.cons kU8 (KdL.cons kInt KdL.nil)))) (k, pl, x, cut, ()) kBool.rs.out w
    (DoesL.outs (Ens_ok (.cons begun10_ok (.cons mayR_ok (.cons times1R_ok (.cons gen1R_ok (.cons put1_ok (.cons take1F_ok (.cons placeF_ok .nil)))))))) 300 false (ptBack_run begun10 mayRF times1R gen1R put1F take1F placeF k pl x cut) h.1 h.2)
end Go.Proofs.YtbbnabednkopdaaGreat

set_option linter.unusedSimpArgs false
set_option linter.unusedVariables false
namespace Go.Proofs.YtbbnabednkopdaaGreat
open Go.RowKit
theorem bval_inj {a b : List UInt8} (hl : a.length = b.length) : ∀ n, bval a n = bval b n → ∀ t, t < n → bAt a (a.length - 1 - t) = bAt b (b.length - 1 - t)
  | 0, _, t, ht => absurd ht (Nat.not_lt_zero t)
  | n + 1, h, t, ht => by
    have h1 := bval_lt a n
    have h2 := bval_lt b n
    have h : bval a n + (bAt a (a.length - 1 - n)).toNat * 256 ^ n = bval b n + (bAt b (b.length - 1 - n)).toNat * 256 ^ n := h
    have hp : 0 < 256 ^ n := Nat.pow_pos (by decide)
    generalize (256 : Nat) ^ n = q at *
    have e1 : (bval a n + (bAt a (a.length - 1 - n)).toNat * q) / q = (bAt a (a.length - 1 - n)).toNat := by rw [Nat.add_mul_div_right _ _ hp, Nat.div_eq_of_lt h1, Nat.zero_add]
    have e2 : (bval b n + (bAt b (b.length - 1 - n)).toNat * q) / q = (bAt b (b.length - 1 - n)).toNat := by rw [Nat.add_mul_div_right _ _ hp, Nat.div_eq_of_lt h2, Nat.zero_add]
    have e3 : (bAt a (a.length - 1 - n)).toNat = (bAt b (b.length - 1 - n)).toNat := by rw [← e1, ← e2, h]
    rcases Nat.lt_succ_iff_lt_or_eq.1 ht with h3 | h3
    · exact bval_inj hl n (by rw [e3] at h; exact Nat.add_right_cancel h) t h3
    · subst h3
      exact UInt8.toNat.inj e3
theorem bytes_inj {a b : List UInt8} (hl : a.length = b.length) (h : bval a a.length = bval b b.length) : a = b := by
  refine List.ext_getElem hl fun i h1 h2 => ?_
  have k := bval_inj hl a.length (by rw [h, hl]) (a.length - 1 - i) (by omega)
  rw [← hl, show a.length - 1 - (a.length - 1 - i) = i by omega] at k
  unfold bAt at k
  rwa [List.getD_eq_getElem?_getD, List.getD_eq_getElem?_getD, List.getElem?_eq_getElem h1, List.getElem?_eq_getElem h2] at k
theorem takeG_zero {n : Nat} {x : Fp} {m : Bool} (h : (takeG n x m).2 = 0) : n = 48 ∧ (takeG n x m).1 = x := by
  unfold takeG at h ⊢
  cases h1 : decide ((n : Int) < 48) with
  | true => rw [h1] at h; exact absurd h int2
  | false =>
    rw [h1] at h
    cases h2 : decide ((n : Int) > 48) with
    | true => rw [h2] at h; exact absurd h int8
    | false =>
      rw [h2] at h
      have h1 := of_decide_eq_false h1
      have h2 := of_decide_eq_false h2
      refine ⟨by omega, ?_⟩
      cases m with
      | false => exact absurd (show (4 : Int) = 0 from h) (by decide)
      | true => rfl
theorem w6_bytes : (256 : Nat) ^ 48 = W64 ^ 6 := by decide +kernel
theorem put_take {l : List UInt8} (h : (ftakeF l).2 = 0) : fputF (ftakeF l).1 = l := by
  obtain ⟨h1, h2⟩ := takeG_zero (n := l.length) (x := ofL (takF l)) (m := mayF (ofL (takF l))) h
  rw [show (ftakeF l).1 = ofL (takF l) from h2]
  have hl : (takF l).length ≤ 6 := normal_len (xs := takF l) (cutF_idem _) (by rw [takF_val, h1, ← w6_bytes]; exact bval_lt l 48)
  refine bytes_inj (by rw [fput_len', h1]) ?_
  rw [fput_len', h1, fput_val, ofL_val hl, takF_val, h1]
theorem b_un (c : UInt8) : ((c &&& UInt8.ofNat 128 == UInt8.ofNat 0) || (c &&& UInt8.ofNat 64 != UInt8.ofNat 0) || ((c &&& ~~~(UInt8.ofNat 224)) + hiB (c &&& UInt8.ofNat 32 != UInt8.ofNat 0) == c)) = true := u8_all (p := fun c => (c &&& UInt8.ofNat 128 == UInt8.ofNat 0) || (c &&& UInt8.ofNat 64 != UInt8.ofNat 0) || ((c &&& ~~~(UInt8.ofNat 224)) + hiB (c &&& UInt8.ofNat 32 != UInt8.ofNat 0) == c)) (by decide +kernel) c
theorem b_un0 (c : UInt8) : ((c &&& UInt8.ofNat 128 == UInt8.ofNat 0) || !(c &&& UInt8.ofNat 64 != UInt8.ofNat 0) || (c &&& UInt8.ofNat 32 != UInt8.ofNat 0) || !(c &&& ~~~(UInt8.ofNat 224) == 0) || c == 192) = true := u8_all (p := fun c => (c &&& UInt8.ofNat 128 == UInt8.ofNat 0) || !(c &&& UInt8.ofNat 64 != UInt8.ofNat 0) || (c &&& UInt8.ofNat 32 != UInt8.ofNat 0) || !(c &&& ~~~(UInt8.ofNat 224) == 0) || c == 192) (by decide +kernel) c
theorem un_hd {t : List UInt8} (h0 : 0 < t.length) (h7 : bit7 t = false) (h6 : bit6 t = false) : hdB (bareL t) (hiB (bit5 t)) = t := by
  have h := b_un (t.getD 0 0)
  rw [show (t.getD 0 0 &&& UInt8.ofNat 128 == UInt8.ofNat 0) = false from h7, show (t.getD 0 0 &&& UInt8.ofNat 64 != UInt8.ofNat 0) = false from h6, Bool.false_or, Bool.false_or] at h
  unfold hdB bareL
  rw [getD_hd t h0, set_set_hd]
  exact (congrArg (t.set 0) (eq_of_beq h)).trans (set_hd t)
theorem zeroTo_get {l : List UInt8} : ∀ {n : Nat}, zeroTo l n = true → ∀ i, i < n → l.getD i 0 = 0
  | 0, _, i, hi => absurd hi (Nat.not_lt_zero i)
  | n + 1, h, i, hi => by
    unfold zeroTo at h
    rw [Bool.and_eq_true] at h
    rcases Nat.lt_succ_iff_lt_or_eq.1 hi with h1 | h1
    · exact zeroTo_get h.1 i h1
    · rw [h1]; exact eq_of_beq h.2
theorem zeros_of {l : List UInt8} (h : zeroTo l l.length = true) : l = List.replicate l.length 0 := by
  refine List.ext_getElem (by rw [List.length_replicate]) fun i h1 h2 => ?_
  have k := zeroTo_get h i h1
  rw [List.getD_eq_getElem?_getD, List.getElem?_eq_getElem h1] at k
  rw [List.getElem_replicate]
  exact k
theorem un_inf {t : List UInt8} (hl : t.length = 48) (h7 : bit7 t = false) (h6 : bit6 t = true) (h5 : bit5 t = false) (hz : zeroTo (bareL t) t.length = true) : inf1B = t := by
  have h0 : 0 < t.length := by rw [hl]; decide
  have hz' : zeroTo (bareL t) (bareL t).length = true := by rw [bareL_len]; exact hz
  have e := zeros_of hz'
  rw [bareL_len, hl] at e
  have hc : (t.getD 0 0 &&& ~~~(UInt8.ofNat 224)) = 0 := by
    have k := zeroTo_get hz 0 h0
    unfold bareL at k
    rwa [getD_hd t h0] at k
  have h := b_un0 (t.getD 0 0)
  rw [show (t.getD 0 0 &&& UInt8.ofNat 128 == UInt8.ofNat 0) = false from h7, show (t.getD 0 0 &&& UInt8.ofNat 64 != UInt8.ofNat 0) = true from h6, show (t.getD 0 0 &&& UInt8.ofNat 32 != UInt8.ofNat 0) = false from h5, hc] at h
  have h : t.getD 0 0 = 192 := eq_of_beq (by simpa using h)
  unfold inf1B hdB
  rw [← e]
  unfold bareL
  rw [getD_hd t h0, set_set_hd, hc]
  refine Eq.trans ?_ (set_hd t)
  rw [h]
  rfl
theorem bareG_inv {c1 c2 c3 c4 c5 c6 : Bool} {l : List UInt8} (h : (bareG c1 c2 c3 c4 c5 c6 l).2.2.2 = 0) :
    c1 = false ∧ c2 = false ∧ c3 = false ∧ ((c4 = false ∧ bareG c1 c2 c3 c4 c5 c6 l = (l, false, c5, 0)) ∨ (c4 = true ∧ c5 = false ∧ c6 = true ∧ bareG c1 c2 c3 c4 c5 c6 l = (l, true, false, 0))) := by
  cases c1 with
  | true => exact absurd h int2
  | false =>
  cases c2 with
  | true => exact absurd h int8
  | false =>
  cases c3 with
  | true => exact absurd h int3
  | false =>
  cases c4 with
  | false => exact ⟨rfl, rfl, rfl, .inl ⟨rfl, rfl⟩⟩
  | true =>
    cases c5 with
    | true => exact absurd h int3
    | false =>
      cases c6 with
      | false => exact absurd h int3
      | true => exact ⟨rfl, rfl, rfl, .inr ⟨rfl, rfl, rfl, rfl⟩⟩
theorem coreG_inv {X P : Type} {xo : X × Int} {sF : X → X × Bool} {cub : X → X} {isz : X → Bool} {fin : Bool → X → X → P} {inF : P → Bool} {z : P} {high : Bool} (h : (coreG xo sF cub isz fin inF z high).2 = 0) :
    xo.2 = 0 ∧ (sF (cub xo.1)).2 = true ∧ (coreG xo sF cub isz fin inF z high).1 = fin high xo.1 (sF (cub xo.1)).1 := by
  unfold coreG at h ⊢
  cases h1 : (xo.2 != 0) with
  | true =>
    rw [h1] at h
    have h : xo.2 = 0 := h
    rw [h] at h1
    cases h1
  | false =>
    rw [h1] at h
    cases h2 : (sF (cub xo.1)).2 with
    | false => rw [h2] at h; exact absurd (show (5 : Int) = 0 from h) (by decide)
    | true =>
      rw [h2] at h
      cases h3 : high && isz (sF (cub xo.1)).1 with
      | true => rw [h3] at h; exact absurd h int3
      | false =>
        rw [h3] at h
        cases h4 : inF (fin high xo.1 (sF (cub xo.1)).1) with
        | false => rw [h4] at h; exact absurd (show (6 : Int) = 0 from h) (by decide)
        | true => exact ⟨int_zero h1, rfl, rfl⟩
theorem put_fin {x s : Fp} (hx : x.ok) (hs : s.ok) (h0 : s.v ≠ 0) (hg : greatF s = false) (g : Bool) : put1F (fin1 g x s) = hdB (fputF x) (hiB g) := by
  unfold fin1
  cases g with
  | false => rw [cond_false, put1_hd hx, hg]
  | true => rw [cond_true, neg_aff1, put1_hd hx, fr1 hs h0, hg]; rfl
theorem back_gen {l : List UInt8} {g : Bool} {xo : Fp × Int} (ho : xo.2 = 0 → xo.1.ok) (h : (coreG xo sqrtF cub1 (fun y => fpEq y zeroFp) fin1 inG1 pg10 g).2 = 0) : xo.2 = 0 ∧ put1F (coreG xo sqrtF cub1 (fun y => fpEq y zeroFp) fin1 inG1 pg10 g).1 = hdB (fputF xo.1) (hiB g) := by
  obtain ⟨h1, h2, h3⟩ := coreG_inv h
  refine ⟨h1, ?_⟩
  rw [h3]
  have hx := ho h1
  obtain ⟨c1, c2⟩ := cub1_v hx
  obtain ⟨_, r2, r3, r4⟩ := rt1 c1 ((sqrt_snd c1).1 h2)
  exact put_fin hx r2 (y_ne1 (over1 hx h2)) r4 g
theorem back1 {t : List UInt8} (h : (take1F t).2 = 0) : put1F (take1F t).1 = t := by
  rw [take1F_val] at h ⊢
  have he : (bareF t 48).2.2.2 = 0 := by
    cases hc : ((bareF t 48).2.2.2 != 0) with
    | true =>
      unfold takeV at h
      rw [hc] at h
      exact h
    | false => exact int_zero hc
  obtain ⟨c1, c2, c3, h4⟩ := bareG_inv (c1 := decide ((t.length : Int) < 48)) (c2 := decide ((t.length : Int) > 48)) (c3 := bit7 t) (c4 := bit6 t) (c5 := bit5 t) (c6 := zeroTo (bareL t) t.length) (l := bareL t) he
  have hl : t.length = 48 := by
    have c1 := of_decide_eq_false c1
    have c2 := of_decide_eq_false c2
    omega
  rcases h4 with ⟨h6, e⟩ | ⟨h6, h5, hz, e⟩
  · rw [show bareF t 48 = (bareL t, false, bit5 t, 0) from e] at h ⊢
    rw [takeV_go] at h ⊢
    obtain ⟨k1, k2⟩ := back_gen (l := bareL t) (xo := ftakeF (bareL t)) taken_ok h
    refine k2.trans ?_
    rw [put_take k1]
    exact un_hd (by rw [hl]; decide) c3 h6
  · rw [show bareF t 48 = (bareL t, true, false, 0) from e, takeV_inf]
    show put1F infG1 = t
    rw [put1F_val]
    exact un_inf hl c3 h6 h5 hz
theorem take_short {l : List UInt8} (h : l.length < 48) : (take1F l).2 = 2 := by
  rw [take1F_val]
  have : bareF l 48 = ([], false, false, 2) := by
    unfold bareF
    rw [decide_eq_true (show (l.length : Int) < 48 by omega)]
    rfl
  rw [this]
  rfl
theorem take_long {l : List UInt8} (h : 48 < l.length) : (take1F l).2 = 8 := by
  rw [take1F_val]
  have : bareF l 48 = ([], false, false, 8) := by
    unfold bareF
    rw [decide_eq_false (show ¬ (l.length : Int) < 48 by omega), decide_eq_true (show (l.length : Int) > 48 by omega)]
    rfl
  rw [this]
  rfl
theorem place_in (k : Int) : 0 ≤ placeF k 48 ∧ placeF k 48 < 48 := by
  have h1 := Int.tmod_lt_of_pos k (show (0 : Int) < 48 by decide)
  have h2 := Int.lt_tmod_of_pos k (show (0 : Int) < 48 by decide)
  unfold placeF placeF_T
  simp only [outD_br, outD_vc, outD_leaf]
  rw [show decide ((48 : Int) < 1) = false from rfl, cond_false]
  cases h3 : decide (Int.tmod k 48 < 0) with
  | true =>
    have h3 := of_decide_eq_true h3
    rw [cond_true, show IntKind.i64.wrap (Int.tmod k 48 + 48) = Int.tmod k 48 + 48 from IntWalk.i64_in _ (by omega)]
    omega
  | false =>
    have h3 := of_decide_eq_false h3
    rw [cond_false]
    omega
theorem takeSet' (l : List UInt8) (i : Nat) (v : UInt8) : List.take l.length (l.set i v) = l.set i v := List.take_of_length_le (Nat.le_of_eq (List.length_set ..))
theorem takeOne (l : List UInt8) (v : UInt8) : List.take (l.length + 1) (l ++ [v]) = l ++ [v] := List.take_of_length_le (by rw [List.length_append]; exact Nat.le_refl _)
theorem back_vc (f0 : Bool) (f1 : Fr → Bool) (f2 : Pg1 → Fr → Pg1) (f3 : Pg1) (f4 : Pg1 → List UInt8) (f5 : List UInt8 → Pg1 × Int) (f6 : Int → Int → Int) (k : Fr) (pl : Int) (x : UInt8) (cut : Int) (h4 : ∀ a, (f4 a).length = 48) (h6 : ∀ z, 0 ≤ f6 z 48 ∧ f6 z 48 < 48) :
    (ptBack_T f0 f1 f2 f3 f4 f5 f6 k pl x cut).full = true ∧ (ptBack_T f0 f1 f2 f3 f4 f5 f6 k pl x cut).okAll := by
  refine ⟨rfl, ?_⟩
  unfold ptBack_T
  have a := h6 pl
  have c := h6 cut
  generalize f6 pl 48 = u at *
  generalize f6 cut 48 = v at *
  have hb := h4 (f2 f3 k)
  generalize f4 (f2 f3 k) = b at *
  simp only [Tree.okAll, Pr.holds, map_b, hb, List.nil_append, List.drop_zero, List.length_take, List.length_set, List.length_append, List.length_cons, List.length_nil, littleB, Nat.zero_add, Nat.mul_one, Nat.sub_zero, Nat.le_refl, implies_true, and_true, true_and]
  intro _ _
  have hm : (List.map EK.u8.cell ([] ++ List.take 48 b)).length = 48 := (map_b (List.take 48 b)).trans (by rw [List.length_take, hb]; rfl)
  repeat' (first | omega | exact Nat.le_of_eq hm.symm | exact Or.inl trivial | (refine ⟨?_, ?_⟩) | intro _)
theorem back_L {f0 : Bool} {f1 : Fr → Bool} {f2 : Pg1 → Fr → Pg1} {f3 : Pg1} {f4 : Pg1 → List UInt8} {f5 : List UInt8 → Pg1 × Int} {f6 : Int → Int → Int} {k : Fr} {pl : Int} {x : UInt8} {cut : Int} (h0 : f0 = true) (h4 : ∀ a, (f4 a).length = 48) (h6 : ∀ z, 0 ≤ f6 z 48 ∧ f6 z 48 < 48)
    (h1 : f5 (f4 (f2 f3 k)) = (f2 f3 k, 0)) (h2 : ∀ t, (f5 t).2 = 0 → f4 (f5 t).1 = t) (h3 : ∀ l, l.length < 48 → (f5 l).2 = 2) (h5 : ∀ l, 48 < l.length → (f5 l).2 = 8) : (ptBack_T f0 f1 f2 f3 f4 f5 f6 k pl x cut).outD false = true := by
  have c := h6 cut
  have hb := h4 (f2 f3 k)
  unfold ptBack_T
  subst h0
  generalize f4 (f2 f3 k) = b at *
  generalize f2 f3 k = p at *
  simp only [outD_br, outD_vc, outD_leaf, List.nil_append, List.drop_zero, List.take_length, Nat.zero_add, Nat.mul_one, Nat.sub_zero, takeSet', takeOne, h1, (pg1Eq_iff _ _).2 rfl, beq_self_eq_true, Bool.not_true, cond_false, cond_true]
  rw [h3 (List.take (f6 cut 48).toNat b) (by rw [List.length_take]; omega), h5 (b ++ [x]) (by rw [List.length_append, hb]; exact Nat.lt_succ_self 48), show (b.length : Int) = 48 by rw [hb]; rfl]
  cases f1 k with
  | false => rfl
  | true =>
    generalize b.set (f6 pl 48).toNat (b.getD (f6 pl 48).toNat 0 ^^^ x) = t
    cases hz : ((f5 t).2 != 0) with
    | true => rfl
    | false =>
      rw [h2 t (int_zero hz)]
      simp only [List.take_length, beq_self_eq_true, cond_true, cond_false, Bool.not_true]
      rfl
theorem pointBack_gives (k : Fr) (pl : Int) (x : UInt8) (cut : Int) (w : World) : Gives Tryz.prog 10 #[rowV k, .int .i64 pl, .int .u8 (x.toNat : Int), .int .i64 cut] w kBool.rs.res true := by
  have := ptBack_gives' k pl x cut (back_vc _ _ _ _ _ _ _ k pl x cut put1F_len place_in) w
  rw [show ptBack k pl x cut = true from back_L begun10_true put1F_len place_in (read1 (gt1 k).1 (gt1 k).2.2) (fun t h => back1 h) (fun l h => take_short h) (fun l h => take_long h)] at this
  exact this
end Go.Proofs.YtbbnabednkopdaaGreat
