/- Points of a curve y y = x x x + b that has none of order two: a group. -/
import Derived.Test.YtchlamfdofpolaaLa
set_option linter.unusedSimpArgs false
set_option linter.unusedVariables false
set_option linter.unusedSectionVars false
namespace Go.Proofs.Ytchlamfdofpolaa

/-- A curve: its number; 2 is not 0, and no point is of order two. -/
class Crv (K : Type) [Fld K] where
  b : K
  two : (2 : K) ≠ 0
  no : ∀ x : K, x * x * x + b ≠ 0

inductive Pt (K : Type) where
  | inf
  | aff (x y : K)

section
variable {K : Type} [Fld K] [Crv K]

def Pt.on : Pt K → Prop
  | .inf => True
  | .aff x y => y * y = x * x * x + Crv.b
open Classical in
noncomputable def slope (x1 y1 x2 y2 : K) : K := if x1 = x2 then 3 * x1 * x1 * Fld.inv (2 * y1) else (y2 - y1) * Fld.inv (x2 - x1)
open Classical in
noncomputable def Pt.add : Pt K → Pt K → Pt K
  | .inf, q => q
  | .aff x y, .inf => .aff x y
  | .aff x1 y1, .aff x2 y2 => if x1 = x2 ∧ y1 = -y2 then .inf else
      .aff (slope x1 y1 x2 y2 * slope x1 y1 x2 y2 - x1 - x2) (slope x1 y1 x2 y2 * (x1 - (slope x1 y1 x2 y2 * slope x1 y1 x2 y2 - x1 - x2)) - y1)
open Classical in
theorem add_aff (x1 y1 x2 y2 : K) : (Pt.aff x1 y1).add (.aff x2 y2) = if x1 = x2 ∧ y1 = -y2 then .inf else
    .aff (slope x1 y1 x2 y2 * slope x1 y1 x2 y2 - x1 - x2) (slope x1 y1 x2 y2 * (x1 - (slope x1 y1 x2 y2 * slope x1 y1 x2 y2 - x1 - x2)) - y1) := rfl
def Pt.neg : Pt K → Pt K
  | .inf => .inf
  | .aff x y => .aff x (-y)

theorem y_ne {x y : K} (h : y * y = x * x * x + Crv.b) : y ≠ 0 := fun e => Crv.no x (by rw [← h, e]; exact CR.mul_zero _)
theorem y_self {x y : K} (h : y * y = x * x * x + Crv.b) : y ≠ -y := fun e => by
  have h1 : (2 : K) * y = 0 := by grind
  exact mul_ne' Crv.two (y_ne h) h1

/-- The line of slope l through (0, m) meets the curve at x1, x2, x3. -/
structure Ln (l m x1 x2 x3 : K) : Prop where
  s1 : l * l = x1 + x2 + x3
  s2 : 2 * (l * m) = -(x1 * x2 + x2 * x3 + x3 * x1)
  s3 : m * m = Crv.b + x1 * x2 * x3

theorem Ln.swap {l m x1 x2 x3 : K} (h : Ln l m x1 x2 x3) : Ln l m x2 x1 x3 := ⟨by rw [h.s1]; grind, by rw [h.s2]; grind, by rw [h.s3]; grind⟩
theorem Ln.turn {l m x1 x2 x3 : K} (h : Ln l m x1 x2 x3) : Ln l m x2 x3 x1 := ⟨by rw [h.s1]; grind, by rw [h.s2]; grind, by rw [h.s3]; grind⟩
theorem Ln.neg {l m x1 x2 x3 : K} (h : Ln l m x1 x2 x3) : Ln (-l) (-m) x1 x2 x3 := ⟨by rw [← h.s1]; grind, by rw [← h.s2]; grind, by rw [← h.s3]; grind⟩
/-- The three points are of the curve. -/
theorem Ln.on {l m x1 x2 x3 : K} (h : Ln l m x1 x2 x3) : (l * x3 + m) * (l * x3 + m) = x3 * x3 * x3 + Crv.b := by
  have h1 := h.s1
  have h2 := h.s2
  have h3 := h.s3
  have e : (l * x3 + m) * (l * x3 + m) = l * l * (x3 * x3) + 2 * (l * m) * x3 + m * m := by grind
  rw [e, h1, h2, h3]
  grind
/-- And no other point of the line is. -/
theorem Ln.all {l m x1 x2 x3 x : K} (h : Ln l m x1 x2 x3) (hx : (l * x + m) * (l * x + m) = x * x * x + Crv.b) : x = x1 ∨ x = x2 ∨ x = x3 := by
  have h1 := h.s1
  have h2 := h.s2
  have h3 := h.s3
  have e : (l * x + m) * (l * x + m) = l * l * (x * x) + 2 * (l * m) * x + m * m := by grind
  rw [e, h1, h2, h3] at hx
  have : (x - x1) * ((x - x2) * (x - x3)) = 0 := by grind
  rcases mul_eq_zero' this with k | k
  · exact .inl (by grind)
  · rcases mul_eq_zero' k with k | k
    · exact .inr (.inl (by grind))
    · exact .inr (.inr (by grind))

/-- Through two points that are no opposites there is a line; which slope it has. -/
theorem line_of {x1 y1 x2 y2 : K} (h1 : y1 * y1 = x1 * x1 * x1 + Crv.b) (h2 : y2 * y2 = x2 * x2 * x2 + Crv.b) (hn : ¬ (x1 = x2 ∧ y1 = -y2)) :
    ∃ m, y1 = slope x1 y1 x2 y2 * x1 + m ∧ y2 = slope x1 y1 x2 y2 * x2 + m ∧ Ln (slope x1 y1 x2 y2) m x1 x2 (slope x1 y1 x2 y2 * slope x1 y1 x2 y2 - x1 - x2) := by
  unfold slope
  by_cases hx : x1 = x2
  · subst hx
    rw [if_pos rfl]
    have hy : y1 = y2 := by
      rcases sq_eq' (h1.trans h2.symm) with e | e
      · exact e
      · exact absurd ⟨rfl, e⟩ hn
    subst hy
    have hi := mul_inv' (mul_ne' Crv.two (y_ne h1))
    generalize Fld.inv (2 * y1) = i at *
    generalize hl : 3 * x1 * x1 * i = l at *
    have hl2 : l * (2 * y1) = 3 * x1 * x1 := by rw [← hl]; grind
    refine ⟨y1 - l * x1, by grind, by grind, by grind, ?_, ?_⟩
    · have : 2 * (l * (y1 - l * x1)) = l * (2 * y1) - 2 * (l * l) * x1 := by grind
      rw [this, hl2]
      grind
    · have : (y1 - l * x1) * (y1 - l * x1) = y1 * y1 - l * (2 * y1) * x1 + l * l * x1 * x1 := by grind
      rw [this, hl2, h1]
      grind
  · rw [if_neg hx]
    have hd : x2 - x1 ≠ 0 := fun e => hx (by grind)
    have hi := mul_inv' hd
    generalize Fld.inv (x2 - x1) = i at *
    generalize hl : (y2 - y1) * i = l at *
    have hl2 : l * (x2 - x1) = y2 - y1 := by rw [← hl]; grind
    have hy2 : y2 = l * x2 + (y1 - l * x1) := by grind
    have s2 : 2 * (l * (y1 - l * x1)) = -(x1 * x2 + x2 * (l * l - x1 - x2) + (l * l - x1 - x2) * x1) := by
      apply mul_cancel' hd
      have e1 : 2 * (l * (y1 - l * x1)) * (x2 - x1) = 2 * (l * (x2 - x1)) * (y1 - l * x1) := by grind
      rw [e1, hl2]
      have e2 : y2 * y2 - y1 * y1 = x2 * x2 * x2 - x1 * x1 * x1 := by rw [h1, h2]; grind
      grind
    refine ⟨y1 - l * x1, by grind, hy2, by grind, s2, ?_⟩
    have : (y1 - l * x1) * (y1 - l * x1) = y1 * y1 - 2 * (l * (y1 - l * x1)) * x1 - l * l * x1 * x1 := by grind
    rw [this, s2, h1]
    grind
theorem three_less (x y z : K) : x + y + z - x - y = z := by grind
theorem line_down (l m x y : K) : l * (x - y) - (l * x + m) = -(l * y + m) := by grind
/-- What two points of a line sum up to. -/
theorem add_of_ln {l m x1 y1 x2 y2 x3 : K} (h : Ln l m x1 x2 x3) (h1 : y1 = l * x1 + m) (h2 : y2 = l * x2 + m) : (Pt.aff x1 y1).add (Pt.aff x2 y2) = .aff x3 (-(l * x3 + m)) := by
  have o1 : y1 * y1 = x1 * x1 * x1 + Crv.b := by rw [h1]; exact h.turn.on
  have hn : ¬ (x1 = x2 ∧ y1 = -y2) := fun e => by
    have : y2 = y1 := by rw [h1, h2, e.1]
    rw [this] at e
    exact y_self o1 e.2
  have hs : slope x1 y1 x2 y2 = l := by
    unfold slope
    by_cases hx : x1 = x2
    · rw [if_pos hx]
      have hi := mul_inv' (mul_ne' Crv.two (y_ne o1))
      generalize Fld.inv (2 * y1) = i at *
      have hq : 3 * x1 * x1 = l * (2 * y1) := by
        have e : l * (2 * y1) = 2 * (l * l) * x1 + 2 * (l * m) := by rw [h1]; grind
        rw [e, h.s1, h.s2, hx]
        grind
      rw [hq]
      grind
    · rw [if_neg hx]
      have hi := mul_inv' (a := x2 - x1) (fun e => hx (by grind))
      generalize Fld.inv (x2 - x1) = i at *
      rw [h1, h2]
      grind
  have h3 := h.s1
  rw [add_aff, if_neg hn, hs]
  have e3 : l * l - x1 - x2 = x3 := by rw [h3]; exact three_less x1 x2 x3
  rw [e3, h1]
  congr 1
  exact line_down l m x1 x3
/-- Two points sum up to nothing, or lie on a line. -/
theorem add_cases {x1 y1 x2 y2 : K} (h1 : (Pt.aff x1 y1).on) (h2 : (Pt.aff x2 y2).on) : (x1 = x2 ∧ y1 = -y2 ∧ (Pt.aff x1 y1).add (Pt.aff x2 y2) = .inf) ∨
    ∃ l m x3, Ln l m x1 x2 x3 ∧ y1 = l * x1 + m ∧ y2 = l * x2 + m ∧ (Pt.aff x1 y1).add (Pt.aff x2 y2) = .aff x3 (-(l * x3 + m)) := by
  by_cases h : x1 = x2 ∧ y1 = -y2
  · left
    refine ⟨h.1, h.2, ?_⟩
    rw [add_aff, if_pos h]
  · right
    obtain ⟨m, e1, e2, e3⟩ := line_of h1 h2 h
    exact ⟨_, m, _, e3, e1, e2, add_of_ln e3 e1 e2⟩

theorem inf_add (p : Pt K) : Pt.inf.add p = p := by cases p <;> rfl
theorem add_inf (p : Pt K) : p.add .inf = p := by cases p <;> rfl
theorem neg_neg_pt (p : Pt K) : p.neg.neg = p := by
  cases p with
  | inf => rfl
  | aff x y =>
    show Pt.aff x (- -y) = _
    rw [show - -y = y by grind]
theorem neg_on {p : Pt K} (h : p.on) : p.neg.on := by
  cases p with
  | inf => trivial
  | aff x y =>
    show -y * -y = _
    rw [← show y * y = _ from h]
    grind
theorem add_on {p q : Pt K} (hp : p.on) (hq : q.on) : (p.add q).on := by
  cases p with
  | inf => rw [inf_add]; exact hq
  | aff x1 y1 =>
    cases q with
    | inf => exact hp
    | aff x2 y2 =>
      rcases add_cases hp hq with ⟨_, _, e⟩ | ⟨l, m, x3, h, _, _, e⟩
      · rw [e]; trivial
      · rw [e]
        exact neg_on (p := .aff x3 (l * x3 + m)) h.on
theorem add_comm_pt {p q : Pt K} (hp : p.on) (hq : q.on) : p.add q = q.add p := by
  cases p with
  | inf => rw [inf_add, add_inf]
  | aff x1 y1 =>
    cases q with
    | inf => rw [inf_add, add_inf]
    | aff x2 y2 =>
      rcases add_cases hp hq with ⟨h1, h2, e⟩ | ⟨l, m, x3, h, h1, h2, e⟩
      · rw [e]
        rcases add_cases hq hp with ⟨_, _, e'⟩ | ⟨l, m, x3, h, k1, k2, _⟩
        · rw [e']
        · exfalso
          have : y2 = y1 := by rw [k1, k2, h1]
          rw [this] at h2
          exact y_self hp h2
      · rw [e, add_of_ln h.swap h2 h1]
theorem neg_add_pt {p : Pt K} (hp : p.on) : p.neg.add p = .inf := by
  cases p with
  | inf => rfl
  | aff x y =>
    show (Pt.aff x (-y)).add (.aff x y) = _
    rw [add_aff, if_pos ⟨rfl, rfl⟩]
theorem neg_sum {p q : Pt K} (hp : p.on) (hq : q.on) : (p.add q).neg = p.neg.add q.neg := by
  cases p with
  | inf => rw [inf_add]; show q.neg = Pt.inf.add q.neg; rw [inf_add]
  | aff x1 y1 =>
    cases q with
    | inf => show _ = (Pt.aff x1 y1).neg.add .inf; rw [add_inf, add_inf]
    | aff x2 y2 =>
      rcases add_cases hp hq with ⟨h1, h2, e⟩ | ⟨l, m, x3, h, h1, h2, e⟩
      · rw [e]
        have hq' : (Pt.aff x2 y2) = (Pt.aff x1 y1).neg := by
          show _ = Pt.aff x1 (-y1)
          rw [h1, h2, show - -y2 = y2 by grind]
        rw [hq', neg_neg_pt, neg_add_pt hp]
        rfl
      · rw [e]
        have e2 : (Pt.aff x1 (-y1)).add (.aff x2 (-y2)) = .aff x3 (-(-l * x3 + -m)) := add_of_ln h.neg (by rw [h1]; grind) (by rw [h2]; grind)
        show Pt.aff x3 (- -(l * x3 + m)) = (Pt.aff x1 (-y1)).add (.aff x2 (-y2))
        rw [e2]
        congr 1
        grind
/-- A point and its opposite go away. -/
theorem cancel_pt {p r : Pt K} (hp : p.on) (hr : r.on) : p.neg.add (p.add r) = r := by
  cases p with
  | inf => show Pt.inf.add _ = _; rw [inf_add, inf_add]
  | aff x1 y1 =>
    cases r with
    | inf => rw [add_inf]; exact neg_add_pt hp
    | aff x2 y2 =>
      rcases add_cases hp hr with ⟨h1, h2, e⟩ | ⟨l, m, x3, h, h1, h2, e⟩
      · rw [e, add_inf]
        show Pt.aff x1 (-y1) = _
        rw [h1, h2, show - -y2 = y2 by grind]
      · rw [e]
        have := add_of_ln (y1 := -y1) (y2 := -(l * x3 + m)) h.neg.turn.turn.swap (by rw [h1]; grind) (by grind)
        show (Pt.aff x1 (-y1)).add _ = _
        rw [show (Pt.aff x1 (-y1)).add (.aff x3 (-(l * x3 + m))) = .aff x2 (-(-l * x2 + -m)) from this, h2]
        congr 1
        grind

/-! ## sums go together -/

/-- The function of degree four that two lines make, which meet in opposites, is 0 at the first line's points. -/
theorem four_at {l m k n x1 x2 a : K} (h : Ln l m x1 x2 a) (ha : k * a + n = -(l * a + m)) : x1 * x1 + (a + l * k) * x1 + (l * n + k * m + a * (a + l * k)) + -(l + k) * (l * x1 + m) = 0 := by
  have hn : n = -(l * a + m) - k * a := by grind
  have h1 := h.s1
  have h2 := h.s2
  have e : x1 * x1 + (a + l * k) * x1 + (l * n + k * m + a * (a + l * k)) + -(l + k) * (l * x1 + m) = x1 * x1 + a * x1 + a * a - l * l * (a + x1) - 2 * (l * m) := by rw [hn]; grind
  rw [e, h1, h2]
  grind
theorem four_at' {l m k n x1 x2 a y : K} (h : Ln l m x1 x2 a) (ha : k * a + n = -(l * a + m)) (hy : y = l * x1 + m) : x1 * x1 + (a + l * k) * x1 + (l * n + k * m + a * (a + l * k)) + -(l + k) * y = 0 := by rw [hy]; exact four_at h ha
theorem four_turn' {l m k n x1 x2 a y : K} (h : Ln k n x1 x2 a) (ha : k * a + n = -(l * a + m)) (hy : y = k * x1 + n) : x1 * x1 + (a + l * k) * x1 + (l * n + k * m + a * (a + l * k)) + -(l + k) * y = 0 := by
  have := four_at' (l := k) (m := n) (k := l) (n := m) h (by rw [ha]; grind) hy
  grind
/-- The other root, and where it lies, of two such functions that are one. -/
theorem four_x {l m k n x1 x2 x3 x4 a : K} (h : Ln l m x1 x2 a) (h' : Ln k n a x3 x4) : x4 = (l + k) * (l + k) - 2 * (a + l * k) - x1 - x2 - x3 := by
  have h1 := h.s1
  have h2 := h'.s1
  have e : (l + k) * (l + k) - 2 * (a + l * k) = l * l + k * k - 2 * a := by grind
  rw [e, h1, h2]
  grind

/-- Two functions with the same three points are one; that is to say, two ways to the fourth point. -/
theorem four_same {p q r p' q' r' x4 y4 x5 y5 : K} (hp : p = p') (hq : q = q') (hr : r = r') (hx : x4 = x5)
    (h4 : x4 * x4 + p * x4 + q + -r * y4 = 0) (h5 : x5 * x5 + p' * x5 + q' + -r' * y5 = 0) (hn : r ≠ 0) : y4 = y5 := by
  subst hp hq hr hx
  have : r * (y4 - y5) = 0 := by grind
  rcases mul_eq_zero' this with e | e
  · exact absurd e hn
  · grind

theorem three_less' (k x1 x2 x3 : K) : k - x1 - x2 - x3 = k - x2 - x3 - x1 := by grind
theorem sub_four {p q r p' q' r' x y : K} (f : x * x + p * x + q + -r * y = 0) (g : x * x + p' * x + q' + -r' * y = 0) : (p - p') * x + (q - q') - (r - r') * y = 0 := by grind
theorem two_line {p q r l m x1 y1 x2 y2 : K} (w1 : p * x1 + q - r * y1 = 0) (w2 : p * x2 + q - r * y2 = 0) (h1 : y1 = l * x1 + m) (h2 : y2 = l * x2 + m) : (x1 - x2) * (p - r * l) = 0 := by grind
theorem third_line {p q r l m x1 y1 x3 y3 : K} (w1 : p * x1 + q - r * y1 = 0) (w3 : p * x3 + q - r * y3 = 0) (h1 : y1 = l * x1 + m) (v : p - r * l = 0) : r * (y3 - (l * x3 + m)) = 0 := by grind
theorem eq_of_sub {a b : K} (h : a - b = 0) : a = b := by grind
theorem sub_of_eq {a b : K} (h : a = b) : a - b = 0 := by grind
theorem first_none {p r l : K} (v : p - r * l = 0) (h : r = 0) : p = 0 := by grind
theorem second_none {p q r x y : K} (w : p * x + q - r * y = 0) (h : r = 0) (h2 : p = 0) : q = 0 := by grind
theorem two_roots {p q r x1 y1 x2 y2 : K} (f1 : x1 * x1 + p * x1 + q + -r * y1 = 0) (f2 : x2 * x2 + p * x2 + q + -r * y2 = 0) (h : r = 0) : (x1 - x2) * (x1 + x2 + p) = 0 := by grind
theorem roots_eq {p x1 x2 x3 : K} (h1 : x1 + x2 + p = 0) (h2 : x1 + x3 + p = 0) : x2 - x3 = 0 := by grind
/-- Three points of which no two have the same x, and that are on no line. -/
theorem assoc_far {l1 m1 l2 m2 l3 m3 l4 m4 x1 x2 x3 xA xB x4 x5 : K} {y1 y2 y3 : K} (o3 : y3 * y3 = x3 * x3 * x3 + Crv.b)
    (hA : Ln l1 m1 x1 x2 xA) (hB : Ln l2 m2 x2 x3 xB) (hC : Ln l3 m3 xA x3 x4) (hD : Ln l4 m4 xB x1 x5)
    (a1 : y1 = l1 * x1 + m1) (a2 : y2 = l1 * x2 + m1) (b2 : y2 = l2 * x2 + m2) (b3 : y3 = l2 * x3 + m2) (cA : l3 * xA + m3 = -(l1 * xA + m1)) (c3 : y3 = l3 * x3 + m3) (dB : l4 * xB + m4 = -(l2 * xB + m2)) (d1 : y1 = l4 * x1 + m4)
    (n12 : x1 ≠ x2) (n13 : x1 ≠ x3) (n23 : x2 ≠ x3) (nA : ¬ (x3 = xA ∧ y3 = l1 * xA + m1)) : x4 = x5 ∧ l3 * x4 + m3 = l4 * x5 + m4 := by
  have f1 := four_at' hA cA a1
  have f2 := four_at' hA.swap cA a2
  have f3 := four_turn' hC.turn cA c3
  have f4 := four_turn' hC.turn.swap cA rfl
  have g2 := four_at' hB dB b2
  have g3 := four_at' hB.swap dB b3
  have g1 := four_turn' hD.turn dB d1
  have g5 := four_turn' hD.turn.swap dB rfl
  have e4 := four_x hA hC
  have e5 := four_x hB hD
  have d12 : x1 - x2 ≠ 0 := fun e => n12 (eq_of_sub e)
  have d13 : x1 - x3 ≠ 0 := fun e => n13 (eq_of_sub e)
  have d23 : x2 - x3 ≠ 0 := fun e => n23 (eq_of_sub e)
  have w1 := sub_four f1 g1
  have w2 := sub_four f2 g2
  have w3 := sub_four f3 g3
  have v := (mul_eq_zero' (two_line w1 w2 a1 a2)).resolve_left d12
  have hr0 : (l1 + l3) - (l2 + l4) = 0 := by
    rcases mul_eq_zero' (third_line w1 w3 a1 v) with e | e
    · exact e
    · exfalso
      have e3 := eq_of_sub e
      rw [e3] at o3
      rcases hA.all o3 with k | k | k
      · exact n13 k.symm
      · exact n23 k.symm
      · exact nA ⟨k, by rw [e3, k]⟩
  have hp0 := first_none v hr0
  have hq0 := second_none w1 hr0 hp0
  have hpe := eq_of_sub hp0
  have hqe := eq_of_sub hq0
  have hre := eq_of_sub hr0
  have hx : x4 = x5 := by
    rw [e4, e5, hpe, hre]
    exact three_less' _ _ _ _
  refine ⟨hx, four_same hpe hqe hre hx f4 g5 fun e0 => ?_⟩
  have z1 := (mul_eq_zero' (two_roots f1 f2 e0)).resolve_left d12
  have z2 := (mul_eq_zero' (two_roots f1 f3 e0)).resolve_left d13
  exact d23 (roots_eq z1 z2)

theorem tangent_deriv {l m k xA x1 : K} (s1 : l * l = x1 + x1 + xA) : 2 * x1 + (xA + l * k) - (l + k) * l = 0 := by
  have e : 2 * x1 + (xA + l * k) - (l + k) * l = 2 * x1 + xA - l * l := by grind
  rw [e, s1]
  grind
theorem tangent_of {l m y x xA : K} (h : Ln l m x x xA) (hy : y = l * x + m) : 2 * y * l = 3 * x * x := by
  have e : 2 * y * l = 2 * (l * l) * x + 2 * (l * m) := by rw [hy]; grind
  rw [e, h.s1, h.s2]
  grind
theorem cross1 {l k x y xB yB : K} (h2 : yB = l * (xB - x) + y) (h4 : -yB = k * (xB - x) + y) : (l + k) * (x - xB) = 2 * y := by grind
theorem cross2 {l x y xB yB : K} (h2 : yB = l * (xB - x) + y) : l * (x - xB) = y - yB := by grind
theorem cross3 {l k d u v : K} (h : l * d = u) (g : k * d = v) : l * k * (d * d) = u * v := by rw [← h, ← g]; grind
theorem cross4 {x y xB yB b : K} (o : y * y = x * x * x + b) (oB : yB * yB = xB * xB * xB + b) : (y - yB) * (y - -yB) = (x - xB) * (x * x + x * xB + xB * xB) := by
  have e : (y - yB) * (y - -yB) = y * y - yB * yB := by grind
  rw [e, o, oB]
  grind
theorem cross5 {c d u v : K} (h : c * (d * d) = u) (g : u = d * v) : d * (c * d - v) = 0 := by grind
theorem cross6 (s c d x xB : K) : d * (2 * x + (xB + c) - s) = d * (2 * x + xB) + c * d - s * d := by grind
theorem cross7 (x xB : K) : (x - xB) * (2 * x + xB) + (x * x + x * xB + xB * xB) - 3 * x * x = 0 := by grind
theorem cross8 (s d l1 : K) : s * l1 * d = s * d * l1 := by grind
/-- The slope of a product of two lines that meet at a point. -/
theorem cross_deriv {l k l1 x y xB yB b : K} (o : y * y = x * x * x + b) (oB : yB * yB = xB * xB * xB + b) (t : 2 * y * l1 = 3 * x * x) (h2 : yB = l * (xB - x) + y) (h4 : -yB = k * (xB - x) + y) (n : x - xB ≠ 0) : 2 * x + (xB + l * k) - (l + k) * l1 = 0 := by
  have e4 := cross5 (cross3 (cross2 h2) (cross2 h4)) (cross4 o oB)
  have e5 := eq_of_sub ((mul_eq_zero' e4).resolve_left n)
  have e7 : (x - xB) * (2 * x + (xB + l * k) - (l + k) * l1) = 0 := by
    rw [cross6, cross8 (l + k) (x - xB) l1, e5, cross1 h2 h4, t]
    exact cross7 x xB
  exact (mul_eq_zero' e7).resolve_left n
theorem sub_deriv {x p p' r r' l : K} (h : 2 * x + p - r * l = 0) (g : 2 * x + p' - r' * l = 0) : (p - p') - (r - r') * l = 0 := by grind
theorem double_root {p q r l x1 y1 x3 y3 : K} (f1 : x1 * x1 + p * x1 + q + -r * y1 = 0) (f3 : x3 * x3 + p * x3 + q + -r * y3 = 0) (d : 2 * x1 + p - r * l = 0) (h : r = 0) : (x1 - x3) * (x1 - x3) = 0 := by grind
theorem line_from {l m x xB y : K} (h : y = l * x + m) : l * xB + m = l * (xB - x) + y := by grind
/-- Twice a point, and another one. -/
theorem assoc_twice {l1 m1 l2 m2 l3 m3 l4 m4 x1 x3 xA xB x4 x5 : K} {y1 y3 : K} (o1 : y1 * y1 = x1 * x1 * x1 + Crv.b) (o3 : y3 * y3 = x3 * x3 * x3 + Crv.b)
    (hA : Ln l1 m1 x1 x1 xA) (hB : Ln l2 m2 x1 x3 xB) (hC : Ln l3 m3 xA x3 x4) (hD : Ln l4 m4 xB x1 x5)
    (a1 : y1 = l1 * x1 + m1) (b1 : y1 = l2 * x1 + m2) (b3 : y3 = l2 * x3 + m2) (cA : l3 * xA + m3 = -(l1 * xA + m1)) (c3 : y3 = l3 * x3 + m3) (dB : l4 * xB + m4 = -(l2 * xB + m2)) (d1 : y1 = l4 * x1 + m4)
    (n13 : x1 ≠ x3) (n1B : x1 ≠ xB) (nA : ¬ (x3 = xA ∧ y3 = l1 * xA + m1)) : x4 = x5 ∧ l3 * x4 + m3 = l4 * x5 + m4 := by
  have f1 := four_at' hA cA a1
  have f3 := four_turn' hC.turn cA c3
  have f4 := four_turn' hC.turn.swap cA rfl
  have g3 := four_at' hB.swap dB b3
  have g1 := four_turn' hD.turn dB d1
  have g5 := four_turn' hD.turn.swap dB rfl
  have e4 := four_x hA hC
  have e5 := four_x hB hD
  have d1B : x1 - xB ≠ 0 := fun e => n1B (eq_of_sub e)
  have d13 : x1 - x3 ≠ 0 := fun e => n13 (eq_of_sub e)
  have fd := tangent_deriv (m := m1) (k := l3) hA.s1
  have gd := cross_deriv o1 hB.on (tangent_of hA a1) (line_from b1) (by rw [← dB]; exact line_from d1) d1B
  have w1 := sub_four f1 g1
  have w3 := sub_four f3 g3
  have v := sub_deriv fd gd
  have hr0 : (l1 + l3) - (l2 + l4) = 0 := by
    rcases mul_eq_zero' (third_line w1 w3 a1 v) with e | e
    · exact e
    · exfalso
      have e3 := eq_of_sub e
      rw [e3] at o3
      rcases hA.all o3 with k | k | k
      · exact n13 k.symm
      · exact n13 k.symm
      · exact nA ⟨k, by rw [e3, k]⟩
  have hp0 := first_none v hr0
  have hq0 := second_none w1 hr0 hp0
  have hpe := eq_of_sub hp0
  have hqe := eq_of_sub hq0
  have hre := eq_of_sub hr0
  have hx : x4 = x5 := by
    rw [e4, e5, hpe, hre]
    exact three_less' _ _ _ _
  refine ⟨hx, four_same hpe hqe hre hx f4 g5 fun e0 => ?_⟩
  exact mul_ne' d13 d13 (double_root f1 f3 fd e0)

/-- On the same x: one point, or opposites. -/
theorem same_x {x y1 y2 : K} (h1 : y1 * y1 = x * x * x + Crv.b) (h2 : y2 * y2 = x * x * x + Crv.b) : y1 = y2 ∨ y1 = -y2 := sq_eq' (h1.trans h2.symm)
theorem opp_of {x y1 y2 : K} (h : y1 = -y2) : Pt.aff x y2 = (Pt.aff x y1).neg := by
  show _ = Pt.aff x (-y1)
  rw [h, show - -y2 = y2 by grind]
/-- Where no two points that are added are opposites. -/
theorem assoc_aff {x1 y1 x2 y2 x3 y3 : K} (h1 : (Pt.aff x1 y1).on) (h2 : (Pt.aff x2 y2).on) (h3 : (Pt.aff x3 y3).on) (n13 : x1 ≠ x3) (n23 : x2 ≠ x3) :
    ((Pt.aff x1 y1).add (.aff x2 y2)).add (.aff x3 y3) = (Pt.aff x1 y1).add ((Pt.aff x2 y2).add (.aff x3 y3)) := by
  rcases add_cases h1 h2 with ⟨e1, e2, e⟩ | ⟨l1, m1, xA, hA, a1, a2, eA⟩
  · rw [e, inf_add]
    subst e1
    have hq : Pt.aff x1 y2 = (Pt.aff x1 y1).neg := opp_of e2
    rw [hq]
    have := cancel_pt (neg_on h1) h3
    rw [neg_neg_pt] at this
    exact this.symm
  rcases add_cases h2 h3 with ⟨e1, _, _⟩ | ⟨l2, m2, xB, hB, b2, b3, eB⟩
  · exact absurd e1 n23
  have oA : (Pt.aff xA (-(l1 * xA + m1))).on := neg_on (p := .aff xA (l1 * xA + m1)) hA.on
  have oB : (Pt.aff xB (-(l2 * xB + m2))).on := neg_on (p := .aff xB (l2 * xB + m2)) hB.on
  rw [eA, eB]
  rcases add_cases oA h3 with ⟨e1, e2, e⟩ | ⟨l3, m3, x4, hC, cA, c3, eC⟩
  · -- the three points are on a line
    rw [e]
    subst e1
    have e3 : y3 = l1 * xA + m1 := by grind
    have := add_of_ln hA.turn a2 e3
    rw [this] at eB
    rw [← eB, ← a1]
    show _ = (Pt.aff x1 y1).add (Pt.aff x1 y1).neg
    rw [add_comm_pt h1 (neg_on h1), neg_add_pt h1]
  rcases add_cases h1 oB with ⟨e1, e2, e⟩ | ⟨l4, m4, x5, hD, d1, dB, eD⟩
  · exfalso
    subst e1
    have e3 : y1 = l2 * x1 + m2 := by grind
    have k := add_of_ln hB.turn.turn e3 b2
    rw [eA] at k
    injection k with k1 k2
    have e4 : y3 = l1 * xA + m1 := by rw [b3, ← k1]; grind
    have e5 : -(l1 * xA + m1) = l1 * xA + m1 := by
      have : l3 * xA + m3 = l3 * x3 + m3 := by rw [k1]
      rw [cA, this, ← c3, e4]
    exact y_self hA.on e5.symm
  rw [eC, eD]
  have nA : ¬ (x3 = xA ∧ y3 = l1 * xA + m1) := fun e => by
    have : y3 = -(l1 * xA + m1) := by rw [cA, ← e.1]; exact c3
    exact y_self hA.on (e.2.symm.trans this)
  by_cases n12 : x1 = x2
  · subst n12
    have e12 : y1 = y2 := by rw [a1, a2]
    subst e12
    have n1B : x1 ≠ xB := fun e => by
      subst e
      exact y_self h1 (d1.trans (dB.symm.trans (by rw [← b2])))
    obtain ⟨k1, k2⟩ := assoc_twice h1 h3 hA hB hC hD.swap a1 b2 b3 cA.symm c3 dB.symm d1 n13 n1B nA
    rw [k2, k1]
  · obtain ⟨k1, k2⟩ := assoc_far h3 hA hB hC hD.swap a1 a2 b2 b3 cA.symm c3 dB.symm d1 n12 n13 n23 nA
    rw [k2, k1]

theorem aff_same {x y1 y2 : K} (h1 : (Pt.aff x y1).on) (h2 : (Pt.aff x y2).on) : Pt.aff x y1 = .aff x y2 ∨ Pt.aff x y2 = (Pt.aff x y1).neg := by
  rcases same_x h1 h2 with e | e
  · exact .inl (by rw [e])
  · exact .inr (opp_of e)
/-- Points are a group. -/
theorem add_assoc_pt {p q r : Pt K} (hp : p.on) (hq : q.on) (hr : r.on) : (p.add q).add r = p.add (q.add r) := by
  cases p with
  | inf => rw [inf_add, inf_add]
  | aff x1 y1 =>
    cases q with
    | inf => rw [add_inf, inf_add]
    | aff x2 y2 =>
      cases r with
      | inf => rw [add_inf, add_inf]
      | aff x3 y3 =>
        by_cases n13 : x1 = x3
        · subst n13
          rcases aff_same hp hr with e | e
          · rw [← e, add_comm_pt hq hp, add_comm_pt (add_on hp hq) hp]
          · rw [e, add_comm_pt (add_on hp hq) (neg_on hp), cancel_pt hp hq, add_comm_pt hq (neg_on hp)]
            have := cancel_pt (neg_on hp) hq
            rw [neg_neg_pt] at this
            exact this.symm
        · by_cases n23 : x2 = x3
          · subst n23
            rcases aff_same hq hr with e | e
            · -- (p + q) + q = p + (q + q), from (q + q) + p = q + (q + p)
              rw [← e]
              have k := assoc_aff hq hq hp (fun e => n13 e.symm) (fun e => n13 e.symm)
              rw [add_comm_pt (add_on hp hq) hq, add_comm_pt hp hq, ← k, add_comm_pt (add_on hq hq) hp]
            · rw [e, add_comm_pt hq (neg_on hq), neg_add_pt hq, add_inf, add_comm_pt (add_on hp hq) (neg_on hq), add_comm_pt hp hq, cancel_pt hq hp]
          · exact assoc_aff hp hq hr n13 n23

/-! ## multiples -/
noncomputable def Pt.mul (n : Nat) (p : Pt K) : Pt K := match n with
  | 0 => .inf
  | n + 1 => (Pt.mul n p).add p
theorem mul_zero_pt (p : Pt K) : p.mul 0 = .inf := rfl
theorem mul_succ_pt (p : Pt K) (n : Nat) : p.mul (n + 1) = (p.mul n).add p := rfl
theorem mul_one_pt (p : Pt K) : p.mul 1 = p := by rw [mul_succ_pt, mul_zero_pt, inf_add]
theorem mul_on {p : Pt K} (hp : p.on) : ∀ n, (p.mul n).on
  | 0 => trivial
  | n + 1 => add_on (mul_on hp n) hp
theorem mul_add_pt {p : Pt K} (hp : p.on) (m : Nat) : ∀ n, p.mul (m + n) = (p.mul m).add (p.mul n)
  | 0 => by rw [Nat.add_zero, mul_zero_pt, add_inf]
  | n + 1 => by rw [← Nat.add_assoc, mul_succ_pt, mul_add_pt hp m n, mul_succ_pt, add_assoc_pt (mul_on hp m) (mul_on hp n) hp]
theorem mul_inf_pt : ∀ n, (Pt.inf : Pt K).mul n = .inf
  | 0 => rfl
  | n + 1 => by rw [mul_succ_pt, mul_inf_pt n, inf_add]
theorem add_mul_pt {p q : Pt K} (hp : p.on) (hq : q.on) : ∀ n, (p.add q).mul n = (p.mul n).add (q.mul n)
  | 0 => rfl
  | n + 1 => by
    have a := mul_on hp n
    have b := mul_on hq n
    rw [mul_succ_pt, add_mul_pt hp hq n, mul_succ_pt, mul_succ_pt, add_assoc_pt a b (add_on hp hq), ← add_assoc_pt b hp hq, add_comm_pt b hp, add_assoc_pt hp b hq, ← add_assoc_pt a hp (add_on b hq)]
theorem mul_mul_pt {p : Pt K} (hp : p.on) (m : Nat) : ∀ n, p.mul (m * n) = (p.mul m).mul n
  | 0 => by rw [Nat.mul_zero, mul_zero_pt, mul_zero_pt]
  | n + 1 => by rw [Nat.mul_succ, mul_add_pt hp, mul_mul_pt hp m n, mul_succ_pt]
theorem neg_mul_pt {p : Pt K} (hp : p.on) : ∀ n, p.neg.mul n = (p.mul n).neg
  | 0 => rfl
  | n + 1 => by rw [mul_succ_pt, neg_mul_pt hp n, mul_succ_pt, neg_sum (mul_on hp n) hp]
theorem eq_of_neg_add {p q : Pt K} (hp : p.on) (hq : q.on) (h : p.neg.add q = .inf) : p = q := by
  have k := cancel_pt (neg_on hp) hq
  rw [neg_neg_pt, h, add_inf] at k
  exact k
/-- The exponents of a point whose r-th multiple is none count modulo r. -/
theorem mul_mod_pt {p : Pt K} (hp : p.on) {r : Nat} (h : p.mul r = .inf) (n : Nat) : p.mul (n % r) = p.mul n := by
  have e : p.mul n = p.mul (r * (n / r) + n % r) := by rw [Nat.div_add_mod]
  rw [e, mul_add_pt hp, mul_mul_pt hp, h, mul_inf_pt, inf_add]

end

end Go.Proofs.Ytchlamfdofpolaa
