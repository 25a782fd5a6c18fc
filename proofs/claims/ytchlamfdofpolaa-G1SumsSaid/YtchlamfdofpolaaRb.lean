/- Points by three numbers: one sum for all points; sums and doubles in Jacobi's coordinates. -/
import Derived.Test.YtchlamfdofpolaaRa
set_option linter.unusedSimpArgs false
set_option linter.unusedVariables false
set_option linter.unusedSectionVars false
namespace Go.Proofs.Ytchlamfdofpolaa

section
variable {K : Type} [Fld K] [Crv K]

/-- X / Z, Y / Z; Z 0: none. -/
def Pj (X Y Z : K) : Pt K → Prop
  | .inf => X = 0 ∧ Z = 0 ∧ Y ≠ 0
  | .aff x y => Z ≠ 0 ∧ X = x * Z ∧ Y = y * Z

def rx (b X1 Y1 Z1 X2 Y2 Z2 : K) : K := (X1 * Y2 + X2 * Y1) * (Y1 * Y2 - 3 * b * (Z1 * Z2)) - (Y1 * Z2 + Y2 * Z1) * (3 * b * (X1 * Z2 + X2 * Z1))
def ry (b X1 Y1 Z1 X2 Y2 Z2 : K) : K := (Y1 * Y2 - 3 * b * (Z1 * Z2)) * (Y1 * Y2 + 3 * b * (Z1 * Z2)) + 3 * b * (X1 * Z2 + X2 * Z1) * (3 * (X1 * X2))
def rz (b X1 Y1 Z1 X2 Y2 Z2 : K) : K := (Y1 * Y2 + 3 * b * (Z1 * Z2)) * (Y1 * Z2 + Y2 * Z1) + 3 * (X1 * X2) * (X1 * Y2 + X2 * Y1)

theorem rx_scale (b x1 y1 z1 x2 y2 z2 : K) : rx b (x1 * z1) (y1 * z1) z1 (x2 * z2) (y2 * z2) z2 = (z1 * z2) * (z1 * z2) * rx b x1 y1 1 x2 y2 1 := by unfold rx; grind
theorem ry_scale (b x1 y1 z1 x2 y2 z2 : K) : ry b (x1 * z1) (y1 * z1) z1 (x2 * z2) (y2 * z2) z2 = (z1 * z2) * (z1 * z2) * ry b x1 y1 1 x2 y2 1 := by unfold ry; grind
theorem rz_scale (b x1 y1 z1 x2 y2 z2 : K) : rz b (x1 * z1) (y1 * z1) z1 (x2 * z2) (y2 * z2) z2 = (z1 * z2) * (z1 * z2) * rz b x1 y1 1 x2 y2 1 := by unfold rz; grind

/-- The sum's third number, by the difference. -/
theorem rz_diff {b x1 y1 x2 y2 : K} (h1 : y1 * y1 = x1 * x1 * x1 + b) (h2 : y2 * y2 = x2 * x2 * x2 + b) :
    rz b x1 y1 1 x2 y2 1 = y1 * ((x1 - x2) * (x1 - x2) * (x1 - x2)) - (y1 + y2) * ((2 * x1 + x2) * ((x1 - x2) * (x1 - x2)) - (y1 + y2) * (y1 + y2)) := by
  unfold rz
  grind
theorem rx_sum {b x1 y1 x2 y2 : K} (h1 : y1 * y1 = x1 * x1 * x1 + b) (h2 : y2 * y2 = x2 * x2 * x2 + b) :
    ((y2 - y1) * (y2 - y1) - (x1 + x2) * ((x2 - x1) * (x2 - x1))) * rz b x1 y1 1 x2 y2 1 = (x2 - x1) * (x2 - x1) * rx b x1 y1 1 x2 y2 1 := by
  unfold rz rx
  grind
theorem ry_sum {b x1 y1 x2 y2 : K} (h1 : y1 * y1 = x1 * x1 * x1 + b) (h2 : y2 * y2 = x2 * x2 * x2 + b) :
    ((y2 - y1) * ((2 * x1 + x2) * ((x2 - x1) * (x2 - x1)) - (y2 - y1) * (y2 - y1)) - y1 * ((x2 - x1) * (x2 - x1) * (x2 - x1))) * rz b x1 y1 1 x2 y2 1 = (x2 - x1) * (x2 - x1) * (x2 - x1) * ry b x1 y1 1 x2 y2 1 := by
  unfold rz ry
  grind
theorem rz_twice {b x y : K} (h : y * y = x * x * x + b) : rz b x y 1 x y 1 = 8 * (y * y * y) := by
  unfold rz
  grind

/-! ## sums by chord and tangent, without fractions -/
theorem chord {x1 y1 x2 y2 : K} (h1 : (Pt.aff x1 y1).on) (h2 : (Pt.aff x2 y2).on) (hx : x1 ≠ x2) : ∃ u v, (Pt.aff x1 y1).add (.aff x2 y2) = .aff u v ∧ (Pt.aff u v).on ∧
    u * ((x2 - x1) * (x2 - x1)) = (y2 - y1) * (y2 - y1) - (x1 + x2) * ((x2 - x1) * (x2 - x1)) ∧
    v * ((x2 - x1) * (x2 - x1) * (x2 - x1)) = (y2 - y1) * ((2 * x1 + x2) * ((x2 - x1) * (x2 - x1)) - (y2 - y1) * (y2 - y1)) - y1 * ((x2 - x1) * (x2 - x1) * (x2 - x1)) := by
  have hd : x2 - x1 ≠ 0 := fun e => hx (eq_of_sub e).symm
  have hi := mul_inv' hd
  have ho := add_on h1 h2
  rw [add_aff, if_neg (fun e => hx e.1)] at ho ⊢
  unfold slope at ho ⊢
  rw [if_neg hx] at ho ⊢
  generalize Fld.inv (x2 - x1) = i at *
  have hl : (y2 - y1) * i * (x2 - x1) = y2 - y1 := by
    have : (y2 - y1) * i * (x2 - x1) = (y2 - y1) * ((x2 - x1) * i) := by grind
    rw [this, hi]
    exact CR.mul_one _
  generalize (y2 - y1) * i = l at *
  refine ⟨_, _, rfl, ho, ?_, ?_⟩
  · rw [← hl]
    clear ho hi hl hd
    grind
  · rw [← hl]
    clear ho hi hl hd
    grind
theorem tangent {x y : K} (h : (Pt.aff x y).on) : ∃ u v, (Pt.aff x y).add (.aff x y) = .aff u v ∧ (Pt.aff u v).on ∧ u * (4 * (y * y)) = 9 * (x * x) * (x * x) - 2 * x * (4 * (y * y)) ∧
    v * (8 * (y * y * y)) = 3 * (x * x) * (3 * x * (4 * (y * y)) - 9 * (x * x) * (x * x)) - y * (8 * (y * y * y)) := by
  have hd : 2 * y ≠ 0 := mul_ne' Crv.two (y_ne h)
  have hi := mul_inv' hd
  have ho := add_on h h
  rw [add_aff, if_neg (fun e => y_self h e.2)] at ho ⊢
  unfold slope at ho ⊢
  rw [if_pos rfl] at ho ⊢
  generalize Fld.inv (2 * y) = i at *
  have hl : 3 * x * x * i * (2 * y) = 3 * x * x := by
    have : 3 * x * x * i * (2 * y) = 3 * x * x * (2 * y * i) := by grind
    rw [this, hi]
    exact CR.mul_one _
  generalize 3 * x * x * i = l at *
  have h9 : 9 * (x * x) * (x * x) = (3 * x * x) * (3 * x * x) := by clear ho hi hl hd h; grind
  have h3 : 3 * (x * x) = 3 * x * x := by clear ho hi hl hd h h9; grind
  refine ⟨_, _, rfl, ho, ?_, ?_⟩
  · rw [h9, ← hl]
    clear ho hi hl hd h h9 h3
    grind
  · rw [h9, h3, ← hl]
    clear ho hi hl hd h h9 h3
    grind

theorem Pj.scale {X Y Z k : K} {p : Pt K} (h : Pj X Y Z p) (hk : k ≠ 0) : Pj (k * X) (k * Y) (k * Z) p := by
  cases p with
  | inf =>
    obtain ⟨h1, h2, h3⟩ := h
    exact ⟨by rw [h1]; exact CR.mul_zero _, by rw [h2]; exact CR.mul_zero _, mul_ne' hk h3⟩
  | aff x y =>
    obtain ⟨h1, h2, h3⟩ := h
    exact ⟨mul_ne' hk h1, by rw [h2]; clear h1 h2 h3 hk; grind, by rw [h3]; clear h1 h2 h3 hk; grind⟩
theorem eight_ne : (8 : K) ≠ 0 := by
  have : (8 : K) = 2 * 2 * 2 := by grind
  rw [this]
  exact mul_ne' (mul_ne' Crv.two Crv.two) Crv.two
theorem cube_ne {y : K} (h : y ≠ 0) : 8 * (y * y * y) ≠ 0 := mul_ne' eight_ne (mul_ne' (mul_ne' h h) h)

theorem opp_ring {b x y : K} : rx b x (-y) 1 x y 1 = 0 ∧ rz b x (-y) 1 x y 1 = 0 := by unfold rx rz; exact ⟨by grind, by grind⟩
theorem opp_y {b x y : K} (h : y * y = x * x * x + b) : ry b x (-y) 1 x y 1 = 3 * (x * x) * (3 * x * (4 * (y * y)) - 9 * (x * x) * (x * x)) - y * (8 * (y * y * y)) := by unfold ry; grind
theorem twice_x {b x y : K} (h : y * y = x * x * x + b) : (9 * (x * x) * (x * x) - 2 * x * (4 * (y * y))) * (2 * y) = rx b x y 1 x y 1 := by unfold rx; grind
theorem twice_y {b x y : K} (h : y * y = x * x * x + b) : 3 * (x * x) * (3 * x * (4 * (y * y)) - 9 * (x * x) * (x * x)) - y * (8 * (y * y * y)) = ry b x y 1 x y 1 := by unfold ry; grind
theorem cube_split (u y : K) : u * (8 * (y * y * y)) = u * (4 * (y * y)) * (2 * y) := by grind
theorem div_x {u d n z X : K} (h : u * (d * d) = n) (g : n * z = d * d * X) (hd : d ≠ 0) : X = u * z := by
  apply mul_cancel' (mul_ne' hd hd)
  rw [CR.mul_comm X, ← g, ← h]
  clear h g hd
  grind
theorem div_y {v d n z Y : K} (h : v * (d * d * d) = n) (g : n * z = d * d * d * Y) (hd : d ≠ 0) : Y = v * z := by
  apply mul_cancel' (mul_ne' (mul_ne' hd hd) hd)
  rw [CR.mul_comm Y, ← g, ← h]
  clear h g hd
  grind
theorem diff_flip (x1 y1 x2 y2 : K) : y1 * ((x1 - x2) * (x1 - x2) * (x1 - x2)) - (y1 + y2) * ((2 * x1 + x2) * ((x1 - x2) * (x1 - x2)) - (y1 + y2) * (y1 + y2)) = (-y2 - y1) * ((2 * x1 + x2) * ((x2 - x1) * (x2 - x1)) - (-y2 - y1) * (-y2 - y1)) - y1 * ((x2 - x1) * (x2 - x1) * (x2 - x1)) := by grind
/-- One sum for all points. -/
theorem sum_aff {x1 y1 x2 y2 : K} (h1 : (Pt.aff x1 y1).on) (h2 : (Pt.aff x2 y2).on) : Pj (rx Crv.b x1 y1 1 x2 y2 1) (ry Crv.b x1 y1 1 x2 y2 1) (rz Crv.b x1 y1 1 x2 y2 1) ((Pt.aff x1 y1).add (.aff x2 y2)) := by
  by_cases hx : x1 = x2
  · subst hx
    obtain ⟨u, v, e, o, hu, hv⟩ := tangent h2
    rcases aff_same h2 h1 with e1 | e1
    · have e1 : y2 = y1 := by injection e1
      subst e1
      rw [e]
      have hz := rz_twice (b := Crv.b) h2
      refine ⟨by rw [hz]; exact cube_ne (y_ne h2), ?_, ?_⟩
      · rw [hz, cube_split, hu]
        exact (twice_x h2).symm
      · rw [hz, hv]
        exact (twice_y h2).symm
    · have e2 : y1 = -y2 := by injection e1
      subst e2
      have k : (Pt.aff x1 (-y2)).add (.aff x1 y2) = .inf := neg_add_pt h2
      rw [k]
      refine ⟨opp_ring.1, opp_ring.2, ?_⟩
      rw [opp_y h2, ← hv]
      exact mul_ne' (y_ne o) (cube_ne (y_ne h2))
  · obtain ⟨u, v, e, o, hu, hv⟩ := chord h1 h2 hx
    have hd : x2 - x1 ≠ 0 := fun e => hx (eq_of_sub e).symm
    rw [e]
    refine ⟨?_, div_x hu (rx_sum h1 h2) hd, div_y hv (ry_sum h1 h2) hd⟩
    obtain ⟨u', v', e', o', _, hv'⟩ := chord h1 (neg_on h2) hx
    rw [rz_diff h1 h2, diff_flip, ← hv']
    exact mul_ne' (y_ne o') (mul_ne' (mul_ne' hd hd) hd)
theorem sum_inf_l (b Y X2 Y2 Z2 : K) : rx b 0 Y 0 X2 Y2 Z2 = Y * Y * Y2 * X2 ∧ ry b 0 Y 0 X2 Y2 Z2 = Y * Y * Y2 * Y2 ∧ rz b 0 Y 0 X2 Y2 Z2 = Y * Y * Y2 * Z2 := by unfold rx ry rz; exact ⟨by grind, by grind, by grind⟩
theorem sum_inf_r (b Y X2 Y2 Z2 : K) : rx b X2 Y2 Z2 0 Y 0 = Y * Y * Y2 * X2 ∧ ry b X2 Y2 Z2 0 Y 0 = Y * Y * Y2 * Y2 ∧ rz b X2 Y2 Z2 0 Y 0 = Y * Y * Y2 * Z2 := by unfold rx ry rz; exact ⟨by grind, by grind, by grind⟩
theorem Pj.y_ne {X Y Z : K} {p : Pt K} (hp : p.on) (h : Pj X Y Z p) : Y ≠ 0 := by
  cases p with
  | inf => exact h.2.2
  | aff x y => rw [h.2.2]; exact mul_ne' (Go.Proofs.Ytchlamfdofpolaa.y_ne hp) h.1
theorem sum_all {X1 Y1 Z1 X2 Y2 Z2 : K} {p q : Pt K} (hp : p.on) (hq : q.on) (h : Pj X1 Y1 Z1 p) (g : Pj X2 Y2 Z2 q) : Pj (rx Crv.b X1 Y1 Z1 X2 Y2 Z2) (ry Crv.b X1 Y1 Z1 X2 Y2 Z2) (rz Crv.b X1 Y1 Z1 X2 Y2 Z2) (p.add q) := by
  cases p with
  | inf =>
    obtain ⟨h1, h2, h3⟩ := h
    subst h1 h2
    obtain ⟨e1, e2, e3⟩ := sum_inf_l (Crv.b : K) Y1 X2 Y2 Z2
    rw [e1, e2, e3, inf_add]
    exact g.scale (mul_ne' (mul_ne' h3 h3) (g.y_ne hq))
  | aff x1 y1 =>
    cases q with
    | inf =>
      obtain ⟨h1, h2, h3⟩ := g
      subst h1 h2
      obtain ⟨e1, e2, e3⟩ := sum_inf_r (Crv.b : K) Y2 X1 Y1 Z1
      rw [e1, e2, e3, add_inf]
      exact h.scale (mul_ne' (mul_ne' h3 h3) (h.y_ne hp))
    | aff x2 y2 =>
      obtain ⟨h1, h2, h3⟩ := h
      obtain ⟨g1, g2, g3⟩ := g
      subst h2 h3 g2 g3
      rw [rx_scale, ry_scale, rz_scale]
      exact (sum_aff hp hq).scale (mul_ne' (mul_ne' h1 g1) (mul_ne' h1 g1))

/-! ## Jacobi's coordinates -/
/-- X / Z Z, Y / Z Z Z; Z 0: none. -/
def Jc (X Y Z : K) : Pt K → Prop
  | .inf => Z = 0
  | .aff x y => Z ≠ 0 ∧ X = x * (Z * Z) ∧ Y = y * (Z * Z * Z)
theorem Jc.inf_of {X Y Z : K} {p : Pt K} (h : Jc X Y Z p) (hz : Z = 0) : p = .inf := by
  cases p with
  | inf => rfl
  | aff x y => exact absurd hz h.1
theorem Jc.aff_of {X Y Z : K} {p : Pt K} (h : Jc X Y Z p) (hz : Z ≠ 0) : ∃ x y, p = .aff x y ∧ X = x * (Z * Z) ∧ Y = y * (Z * Z * Z) := by
  cases p with
  | inf => exact absurd h hz
  | aff x y => exact ⟨x, y, rfl, h.2⟩
/-- 3 X X X X ..: the double's numbers. -/
def jx (X Y : K) : K := 3 * (X * X) * (3 * (X * X)) - 8 * (X * (Y * Y))
def jy (X Y : K) : K := 3 * (X * X) * (4 * (X * (Y * Y)) - jx X Y) - 8 * (Y * Y * (Y * Y))
def jz (Y Z : K) : K := 2 * (Y * Z)
theorem jtw_x {x y Z u : K} (hu : u * (4 * (y * y)) = 9 * (x * x) * (x * x) - 2 * x * (4 * (y * y))) : jx (x * (Z * Z)) (y * (Z * Z * Z)) = u * (jz (y * (Z * Z * Z)) Z * jz (y * (Z * Z * Z)) Z) := by
  have e : u * (jz (y * (Z * Z * Z)) Z * jz (y * (Z * Z * Z)) Z) = u * (4 * (y * y)) * (Z * Z * Z * Z * Z * Z * Z * Z) := by unfold jz; clear hu; grind
  rw [e, hu]
  unfold jx
  clear hu e
  grind
theorem jtw_y {x y Z v : K} (hv : v * (8 * (y * y * y)) = 3 * (x * x) * (3 * x * (4 * (y * y)) - 9 * (x * x) * (x * x)) - y * (8 * (y * y * y))) : jy (x * (Z * Z)) (y * (Z * Z * Z)) = v * (jz (y * (Z * Z * Z)) Z * jz (y * (Z * Z * Z)) Z * jz (y * (Z * Z * Z)) Z) := by
  have e : v * (jz (y * (Z * Z * Z)) Z * jz (y * (Z * Z * Z)) Z * jz (y * (Z * Z * Z)) Z) = v * (8 * (y * y * y)) * (Z * Z * Z * Z * (Z * Z * Z * Z) * (Z * Z * Z * Z)) := by unfold jz; clear hv; grind
  rw [e, hv]
  unfold jy jx
  clear hv e
  grind
theorem twice_all {X Y Z : K} {p : Pt K} (hp : p.on) (h : Jc X Y Z p) : Jc (jx X Y) (jy X Y) (jz Y Z) (p.add p) := by
  cases p with
  | inf =>
    show jz Y Z = 0
    unfold jz
    rw [show Z = 0 from h]
    grind
  | aff x y =>
    obtain ⟨h1, h2, h3⟩ := h
    subst h2 h3
    obtain ⟨u, v, e, o, hu, hv⟩ := tangent hp
    rw [e]
    exact ⟨mul_ne' Crv.two (mul_ne' (mul_ne' (y_ne hp) (mul_ne' (mul_ne' h1 h1) h1)) h1), jtw_x hu, jtw_y hv⟩
def px (X1 Y1 Z1 X2 Y2 Z2 : K) : K := (Y2 * (Z1 * Z1 * Z1) - Y1 * (Z2 * Z2 * Z2)) * (Y2 * (Z1 * Z1 * Z1) - Y1 * (Z2 * Z2 * Z2)) - (X2 * (Z1 * Z1) - X1 * (Z2 * Z2)) * (X2 * (Z1 * Z1) - X1 * (Z2 * Z2)) * (X2 * (Z1 * Z1) - X1 * (Z2 * Z2)) - 2 * (X1 * (Z2 * Z2) * ((X2 * (Z1 * Z1) - X1 * (Z2 * Z2)) * (X2 * (Z1 * Z1) - X1 * (Z2 * Z2))))
def py (X1 Y1 Z1 X2 Y2 Z2 : K) : K := (Y2 * (Z1 * Z1 * Z1) - Y1 * (Z2 * Z2 * Z2)) * (X1 * (Z2 * Z2) * ((X2 * (Z1 * Z1) - X1 * (Z2 * Z2)) * (X2 * (Z1 * Z1) - X1 * (Z2 * Z2))) - px X1 Y1 Z1 X2 Y2 Z2) - Y1 * (Z2 * Z2 * Z2) * ((X2 * (Z1 * Z1) - X1 * (Z2 * Z2)) * (X2 * (Z1 * Z1) - X1 * (Z2 * Z2)) * (X2 * (Z1 * Z1) - X1 * (Z2 * Z2)))
def pz (X1 Z1 X2 Z2 : K) : K := Z1 * Z2 * (X2 * (Z1 * Z1) - X1 * (Z2 * Z2))
theorem h_of (x1 x2 Z1 Z2 : K) : x2 * (Z2 * Z2) * (Z1 * Z1) - x1 * (Z1 * Z1) * (Z2 * Z2) = (x2 - x1) * (Z1 * Z2 * (Z1 * Z2)) := by grind
theorem r_of (y1 y2 Z1 Z2 : K) : y2 * (Z2 * Z2 * Z2) * (Z1 * Z1 * Z1) - y1 * (Z1 * Z1 * Z1) * (Z2 * Z2 * Z2) = (y2 - y1) * (Z1 * Z2 * (Z1 * Z2) * (Z1 * Z2)) := by grind
theorem plus_all {X1 Y1 Z1 X2 Y2 Z2 : K} {p q : Pt K} (hp : p.on) (hq : q.on) (h : Jc X1 Y1 Z1 p) (g : Jc X2 Y2 Z2 q) (hz1 : Z1 ≠ 0) (hz2 : Z2 ≠ 0) (hh : X2 * (Z1 * Z1) - X1 * (Z2 * Z2) ≠ 0) :
    Jc (px X1 Y1 Z1 X2 Y2 Z2) (py X1 Y1 Z1 X2 Y2 Z2) (pz X1 Z1 X2 Z2) (p.add q) := by
  obtain ⟨x1, y1, rfl, e1, e2⟩ := h.aff_of hz1
  obtain ⟨x2, y2, rfl, e3, e4⟩ := g.aff_of hz2
  subst e1 e2 e3 e4
  have hx : x1 ≠ x2 := fun e => hh (by rw [h_of, e]; grind)
  obtain ⟨u, v, e, o, hu, hv⟩ := chord hp hq hx
  rw [e]
  unfold px py pz px
  rw [h_of, r_of]
  have hz := mul_ne' hz1 hz2
  generalize hm : Z1 * Z2 = m at *
  have k1 : x1 * (Z1 * Z1) * (Z2 * Z2) = x1 * (m * m) := by rw [← hm]; grind
  have k2 : y1 * (Z1 * Z1 * Z1) * (Z2 * Z2 * Z2) = y1 * (m * m * m) := by rw [← hm]; grind
  rw [k1, k2]
  have hd : x2 - x1 ≠ 0 := fun e => hx (eq_of_sub e).symm
  refine ⟨mul_ne' hz (mul_ne' hd (mul_ne' hz hz)), ?_, ?_⟩
  · have e : u * (m * ((x2 - x1) * (m * m)) * (m * ((x2 - x1) * (m * m)))) = u * ((x2 - x1) * (x2 - x1)) * (m * m * m * m * m * m) := by clear hu hv; grind
    rw [e, hu]
    clear hu hv
    grind
  · have e : v * (m * ((x2 - x1) * (m * m)) * (m * ((x2 - x1) * (m * m))) * (m * ((x2 - x1) * (m * m)))) = v * ((x2 - x1) * (x2 - x1) * (x2 - x1)) * (m * m * m * m * m * m * m * m * m) := by clear hu hv; grind
    rw [e, hv]
    clear hu hv
    grind
/-- One x: one point, or opposites. -/
theorem plus_same {X1 Y1 Z1 X2 Y2 Z2 : K} {p q : Pt K} (hp : p.on) (hq : q.on) (h : Jc X1 Y1 Z1 p) (g : Jc X2 Y2 Z2 q) (hz1 : Z1 ≠ 0) (hz2 : Z2 ≠ 0) (hh : X2 * (Z1 * Z1) - X1 * (Z2 * Z2) = 0) :
    (Y2 * (Z1 * Z1 * Z1) - Y1 * (Z2 * Z2 * Z2) = 0 → q = p) ∧ (Y2 * (Z1 * Z1 * Z1) - Y1 * (Z2 * Z2 * Z2) ≠ 0 → p.add q = .inf) := by
  obtain ⟨x1, y1, rfl, e1, e2⟩ := h.aff_of hz1
  obtain ⟨x2, y2, rfl, e3, e4⟩ := g.aff_of hz2
  subst e1 e2 e3 e4
  have hz := mul_ne' hz1 hz2
  rw [h_of] at hh
  have hx : x2 = x1 := eq_of_sub ((mul_eq_zero' hh).resolve_right (mul_ne' hz hz))
  subst hx
  rw [r_of]
  constructor
  · intro e
    rw [eq_of_sub ((mul_eq_zero' e).resolve_right (mul_ne' (mul_ne' hz hz) hz))]
  · intro e
    rcases aff_same hq hp with k | k
    · injection k with _ k
      exact absurd (by rw [k]; grind) e
    · rw [k]
      exact neg_add_pt hq
theorem Jc.on_eq {X Y Z : K} {p q : Pt K} (h : Jc X Y Z p) (g : Jc X Y Z q) : p = q := by
  by_cases hz : Z = 0
  · rw [h.inf_of hz, g.inf_of hz]
  · obtain ⟨x1, y1, rfl, e1, e2⟩ := h.aff_of hz
    obtain ⟨x2, y2, rfl, e3, e4⟩ := g.aff_of hz
    rw [mul_cancel' (mul_ne' hz hz) (e1.symm.trans e3), mul_cancel' (mul_ne' (mul_ne' hz hz) hz) (e2.symm.trans e4)]

end

end Go.Proofs.Ytchlamfdofpolaa
