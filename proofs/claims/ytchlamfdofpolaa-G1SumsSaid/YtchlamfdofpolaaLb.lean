/- Plain algebra, part b: extensions of degree two and three. -/
import Derived.Test.YtchlamfdofpolaaLa
set_option linter.unusedSimpArgs false
set_option linter.unusedVariables false
set_option linter.unusedSectionVars false
namespace Go.Proofs.Ytchlamfdofpolaa

/-- What the new root's square is. -/
class QP (K : Type) [CR K] where
  nr : K
/-- What the new root's cube is. -/
class CP (K : Type) [CR K] where
  cr : K

structure Qd (K : Type) where
  a : K
  b : K
structure Cb (K : Type) where
  a : K
  b : K
  c : K

section
variable {K : Type} [CR K] [QP K]
theorem Qd.ext' {x y : Qd K} (h : x.a = y.a) (h2 : x.b = y.b) : x = y := by
  cases x; cases y
  simp_all
instance : CR (Qd K) where
  z := ⟨0, 0⟩
  o := ⟨1, 0⟩
  add := fun x y => ⟨x.a + y.a, x.b + y.b⟩
  mul := fun x y => ⟨x.a * y.a + QP.nr * (x.b * y.b), x.a * y.b + x.b * y.a⟩
  neg := fun x => ⟨-x.a, -x.b⟩
  sub := fun x y => ⟨x.a - y.a, x.b - y.b⟩
  add_zero := fun x => Qd.ext' (show x.a + 0 = x.a by grind) (show x.b + 0 = x.b by grind)
  add_comm := fun x y => Qd.ext' (show x.a + y.a = y.a + x.a by grind) (show x.b + y.b = y.b + x.b by grind)
  add_assoc := fun x y w => Qd.ext' (show x.a + y.a + w.a = x.a + (y.a + w.a) by grind) (show x.b + y.b + w.b = x.b + (y.b + w.b) by grind)
  mul_assoc := fun x y w => Qd.ext'
    (show (x.a * y.a + QP.nr * (x.b * y.b)) * w.a + QP.nr * ((x.a * y.b + x.b * y.a) * w.b) = x.a * (y.a * w.a + QP.nr * (y.b * w.b)) + QP.nr * (x.b * (y.a * w.b + y.b * w.a)) by grind)
    (show (x.a * y.a + QP.nr * (x.b * y.b)) * w.b + (x.a * y.b + x.b * y.a) * w.a = x.a * (y.a * w.b + y.b * w.a) + x.b * (y.a * w.a + QP.nr * (y.b * w.b)) by grind)
  mul_comm := fun x y => Qd.ext' (show x.a * y.a + QP.nr * (x.b * y.b) = y.a * x.a + QP.nr * (y.b * x.b) by grind) (show x.a * y.b + x.b * y.a = y.a * x.b + y.b * x.a by grind)
  mul_one := fun x => Qd.ext' (show x.a * 1 + QP.nr * (x.b * 0) = x.a by grind) (show x.a * 0 + x.b * 1 = x.b by grind)
  dist := fun x y w => Qd.ext' (show x.a * (y.a + w.a) + QP.nr * (x.b * (y.b + w.b)) = (x.a * y.a + QP.nr * (x.b * y.b)) + (x.a * w.a + QP.nr * (x.b * w.b)) by grind)
    (show x.a * (y.b + w.b) + x.b * (y.a + w.a) = (x.a * y.b + x.b * y.a) + (x.a * w.b + x.b * w.a) by grind)
  neg_add := fun x => Qd.ext' (show -x.a + x.a = 0 by grind) (show -x.b + x.b = 0 by grind)
  sub_eq := fun x y => Qd.ext' (show x.a - y.a = x.a + -y.a by grind) (show x.b - y.b = x.b + -y.b by grind)
theorem Qd.add_a (x y : Qd K) : (x + y).a = x.a + y.a := rfl
theorem Qd.add_b (x y : Qd K) : (x + y).b = x.b + y.b := rfl
theorem Qd.mul_a (x y : Qd K) : (x * y).a = x.a * y.a + QP.nr * (x.b * y.b) := rfl
theorem Qd.mul_b (x y : Qd K) : (x * y).b = x.a * y.b + x.b * y.a := rfl
theorem Qd.neg_a (x : Qd K) : (-x).a = -x.a := rfl
theorem Qd.neg_b (x : Qd K) : (-x).b = -x.b := rfl
theorem Qd.sub_a (x y : Qd K) : (x - y).a = x.a - y.a := rfl
theorem Qd.sub_b (x y : Qd K) : (x - y).b = x.b - y.b := rfl
theorem Qd.zero_a : (0 : Qd K).a = 0 := rfl
theorem Qd.zero_b : (0 : Qd K).b = 0 := rfl
theorem Qd.one_a : (1 : Qd K).a = 1 := rfl
theorem Qd.one_b : (1 : Qd K).b = 0 := rfl

def Qd.conj (x : Qd K) : Qd K := ⟨x.a, -x.b⟩
def Qd.norm (x : Qd K) : K := x.a * x.a - QP.nr * (x.b * x.b)
def Qd.of (x : K) : Qd K := ⟨x, 0⟩
theorem Qd.norm_mul (x y : Qd K) : (x * y).norm = x.norm * y.norm := by
  unfold Qd.norm
  rw [Qd.mul_a, Qd.mul_b]
  grind
theorem Qd.mul_conj (x : Qd K) : x * x.conj = Qd.of x.norm := Qd.ext' (by rw [Qd.mul_a]; unfold Qd.conj Qd.of Qd.norm; grind) (by rw [Qd.mul_b]; unfold Qd.conj Qd.of; grind)
theorem Qd.conj_mul (x y : Qd K) : (x * y).conj = x.conj * y.conj := Qd.ext' (by rw [Qd.mul_a]; unfold Qd.conj; rw [Qd.mul_a]; grind) (by rw [Qd.mul_b]; unfold Qd.conj; simp only []; rw [Qd.mul_b]; grind)
theorem Qd.conj_add (x y : Qd K) : (x + y).conj = x.conj + y.conj := Qd.ext' rfl (by show -(x.b + y.b) = -x.b + -y.b; grind)
theorem Qd.of_mul (x y : K) : Qd.of (x * y) = Qd.of x * Qd.of y := Qd.ext' (by rw [Qd.mul_a]; unfold Qd.of; grind) (by rw [Qd.mul_b]; unfold Qd.of; grind)
end

/-- A quadratic extension that is a field. -/
class QF (K : Type) [Fld K] extends QP K where
  no : ∀ x : K, x * x ≠ nr
section
variable {K : Type} [Fld K] [QF K]
theorem Qd.norm_ne {x : Qd K} (h : x ≠ 0) : x.norm ≠ 0 := fun e => by
  unfold Qd.norm at e
  by_cases hb : x.b = 0
  · have ha : x.a ≠ 0 := fun ha => h (Qd.ext' ha hb)
    exact mul_ne' ha ha (by rw [hb] at e; grind)
  · have hi := mul_inv' hb
    exact QF.no (x.a * Fld.inv x.b) (by grind)
instance : Fld (Qd K) where
  inv := fun x => ⟨x.a * Fld.inv x.norm, -(x.b * Fld.inv x.norm)⟩
  mul_inv := fun x h => by
    have hn := mul_inv' (Qd.norm_ne h)
    refine Qd.ext' ?_ ?_
    · show x.a * (x.a * Fld.inv x.norm) + QP.nr * (x.b * -(x.b * Fld.inv x.norm)) = 1
      have : x.norm = x.a * x.a - QP.nr * (x.b * x.b) := rfl
      grind
    · show x.a * -(x.b * Fld.inv x.norm) + x.b * (x.a * Fld.inv x.norm) = 0
      grind
  one_ne := fun h => one_ne' (K := K) (congrArg Qd.a h)
end

section
variable {K : Type} [CR K] [CP K]
theorem Cb.ext' {x y : Cb K} (h : x.a = y.a) (h2 : x.b = y.b) (h3 : x.c = y.c) : x = y := by
  cases x; cases y
  simp_all
instance : CR (Cb K) where
  z := ⟨0, 0, 0⟩
  o := ⟨1, 0, 0⟩
  add := fun x y => ⟨x.a + y.a, x.b + y.b, x.c + y.c⟩
  mul := fun x y => ⟨x.a * y.a + CP.cr * (x.b * y.c + x.c * y.b), x.a * y.b + x.b * y.a + CP.cr * (x.c * y.c), x.a * y.c + x.b * y.b + x.c * y.a⟩
  neg := fun x => ⟨-x.a, -x.b, -x.c⟩
  sub := fun x y => ⟨x.a - y.a, x.b - y.b, x.c - y.c⟩
  add_zero := fun x => Cb.ext' (show x.a + 0 = x.a by grind) (show x.b + 0 = x.b by grind) (show x.c + 0 = x.c by grind)
  add_comm := fun x y => Cb.ext' (show x.a + y.a = y.a + x.a by grind) (show x.b + y.b = y.b + x.b by grind) (show x.c + y.c = y.c + x.c by grind)
  add_assoc := fun x y w => Cb.ext' (show x.a + y.a + w.a = x.a + (y.a + w.a) by grind) (show x.b + y.b + w.b = x.b + (y.b + w.b) by grind) (show x.c + y.c + w.c = x.c + (y.c + w.c) by grind)
  mul_assoc := fun x y w => Cb.ext'
    (show (x.a * y.a + CP.cr * (x.b * y.c + x.c * y.b)) * w.a + CP.cr * ((x.a * y.b + x.b * y.a + CP.cr * (x.c * y.c)) * w.c + (x.a * y.c + x.b * y.b + x.c * y.a) * w.b) = x.a * (y.a * w.a + CP.cr * (y.b * w.c + y.c * w.b)) + CP.cr * (x.b * (y.a * w.c + y.b * w.b + y.c * w.a) + x.c * (y.a * w.b + y.b * w.a + CP.cr * (y.c * w.c))) by grind)
    (show (x.a * y.a + CP.cr * (x.b * y.c + x.c * y.b)) * w.b + (x.a * y.b + x.b * y.a + CP.cr * (x.c * y.c)) * w.a + CP.cr * ((x.a * y.c + x.b * y.b + x.c * y.a) * w.c) = x.a * (y.a * w.b + y.b * w.a + CP.cr * (y.c * w.c)) + x.b * (y.a * w.a + CP.cr * (y.b * w.c + y.c * w.b)) + CP.cr * (x.c * (y.a * w.c + y.b * w.b + y.c * w.a)) by grind)
    (show (x.a * y.a + CP.cr * (x.b * y.c + x.c * y.b)) * w.c + (x.a * y.b + x.b * y.a + CP.cr * (x.c * y.c)) * w.b + (x.a * y.c + x.b * y.b + x.c * y.a) * w.a = x.a * (y.a * w.c + y.b * w.b + y.c * w.a) + x.b * (y.a * w.b + y.b * w.a + CP.cr * (y.c * w.c)) + x.c * (y.a * w.a + CP.cr * (y.b * w.c + y.c * w.b)) by grind)
  mul_comm := fun x y => Cb.ext' (show x.a * y.a + CP.cr * (x.b * y.c + x.c * y.b) = y.a * x.a + CP.cr * (y.b * x.c + y.c * x.b) by grind) (show x.a * y.b + x.b * y.a + CP.cr * (x.c * y.c) = y.a * x.b + y.b * x.a + CP.cr * (y.c * x.c) by grind) (show x.a * y.c + x.b * y.b + x.c * y.a = y.a * x.c + y.b * x.b + y.c * x.a by grind)
  mul_one := fun x => Cb.ext' (show x.a * 1 + CP.cr * (x.b * 0 + x.c * 0) = x.a by grind) (show x.a * 0 + x.b * 1 + CP.cr * (x.c * 0) = x.b by grind) (show x.a * 0 + x.b * 0 + x.c * 1 = x.c by grind)
  dist := fun x y w => Cb.ext' (show x.a * (y.a + w.a) + CP.cr * (x.b * (y.c + w.c) + x.c * (y.b + w.b)) = (x.a * y.a + CP.cr * (x.b * y.c + x.c * y.b)) + (x.a * w.a + CP.cr * (x.b * w.c + x.c * w.b)) by grind)
    (show x.a * (y.b + w.b) + x.b * (y.a + w.a) + CP.cr * (x.c * (y.c + w.c)) = (x.a * y.b + x.b * y.a + CP.cr * (x.c * y.c)) + (x.a * w.b + x.b * w.a + CP.cr * (x.c * w.c)) by grind)
    (show x.a * (y.c + w.c) + x.b * (y.b + w.b) + x.c * (y.a + w.a) = (x.a * y.c + x.b * y.b + x.c * y.a) + (x.a * w.c + x.b * w.b + x.c * w.a) by grind)
  neg_add := fun x => Cb.ext' (show -x.a + x.a = 0 by grind) (show -x.b + x.b = 0 by grind) (show -x.c + x.c = 0 by grind)
  sub_eq := fun x y => Cb.ext' (show x.a - y.a = x.a + -y.a by grind) (show x.b - y.b = x.b + -y.b by grind) (show x.c - y.c = x.c + -y.c by grind)
theorem Cb.mul_a (x y : Cb K) : (x * y).a = x.a * y.a + CP.cr * (x.b * y.c + x.c * y.b) := rfl
theorem Cb.mul_b (x y : Cb K) : (x * y).b = x.a * y.b + x.b * y.a + CP.cr * (x.c * y.c) := rfl
theorem Cb.mul_c (x y : Cb K) : (x * y).c = x.a * y.c + x.b * y.b + x.c * y.a := rfl

/-- The other factor of the norm. -/
def Cb.adj (x : Cb K) : Cb K := ⟨x.a * x.a - CP.cr * (x.b * x.c), CP.cr * (x.c * x.c) - x.a * x.b, x.b * x.b - x.a * x.c⟩
def Cb.norm (x : Cb K) : K := x.a * (x.a * x.a - CP.cr * (x.b * x.c)) + CP.cr * (x.c * (CP.cr * (x.c * x.c) - x.a * x.b) + x.b * (x.b * x.b - x.a * x.c))
def Cb.of (x : K) : Cb K := ⟨x, 0, 0⟩
theorem Cb.mul_adj (x : Cb K) : x * x.adj = Cb.of x.norm := Cb.ext' (by rw [Cb.mul_a]; unfold Cb.adj Cb.of Cb.norm; grind) (by rw [Cb.mul_b]; unfold Cb.adj Cb.of; grind) (by rw [Cb.mul_c]; unfold Cb.adj Cb.of; grind)
theorem Cb.adj_adj (x : Cb K) : x.adj.adj = ⟨x.norm * x.a, x.norm * x.b, x.norm * x.c⟩ := Cb.ext' (by unfold Cb.adj Cb.norm; grind) (by unfold Cb.adj Cb.norm; grind) (by unfold Cb.adj Cb.norm; grind)
theorem Cb.norm_mul (x y : Cb K) : (x * y).norm = x.norm * y.norm := by
  unfold Cb.norm
  rw [Cb.mul_a, Cb.mul_b, Cb.mul_c]
  grind
end

/-- A cubic extension that is a field. -/
class CF (K : Type) [Fld K] extends CP K where
  no : ∀ x : K, x * x * x ≠ cr
section
variable {K : Type} [Fld K] [CF K]
theorem Cb.adj_ne {x : Cb K} (h : x.adj = 0) : x = 0 := by
  have h0 : x.a * x.a - CP.cr * (x.b * x.c) = 0 := congrArg Cb.a h
  have h1 : CP.cr * (x.c * x.c) - x.a * x.b = 0 := congrArg Cb.b h
  have h2 : x.b * x.b - x.a * x.c = 0 := congrArg Cb.c h
  by_cases hc : x.c = 0
  · have hb : x.b = 0 := (mul_eq_zero' (show x.b * x.b = 0 by grind)).elim id id
    have ha : x.a = 0 := (mul_eq_zero' (show x.a * x.a = 0 by grind)).elim id id
    exact Cb.ext' ha hb hc
  · have hi := mul_inv' hc
    exact (CF.no (x.b * Fld.inv x.c) (by grind)).elim
theorem Cb.norm_ne {x : Cb K} (h : x ≠ 0) : x.norm ≠ 0 := fun e => h (Cb.adj_ne (Cb.adj_ne (by
  rw [Cb.adj_adj, e]
  exact Cb.ext' (show (0 : K) * x.a = 0 by grind) (show (0 : K) * x.b = 0 by grind) (show (0 : K) * x.c = 0 by grind))))
instance : Fld (Cb K) where
  inv := fun x => ⟨x.adj.a * Fld.inv x.norm, x.adj.b * Fld.inv x.norm, x.adj.c * Fld.inv x.norm⟩
  mul_inv := fun x h => by
    have hn := mul_inv' (Cb.norm_ne h)
    have ha := congrArg Cb.a (Cb.mul_adj x)
    have hb := congrArg Cb.b (Cb.mul_adj x)
    have hc := congrArg Cb.c (Cb.mul_adj x)
    rw [Cb.mul_a] at ha
    rw [Cb.mul_b] at hb
    rw [Cb.mul_c] at hc
    have ha : x.a * x.adj.a + CP.cr * (x.b * x.adj.c + x.c * x.adj.b) = x.norm := ha
    have hb : x.a * x.adj.b + x.b * x.adj.a + CP.cr * (x.c * x.adj.c) = 0 := hb
    have hc : x.a * x.adj.c + x.b * x.adj.b + x.c * x.adj.a = 0 := hc
    generalize x.adj = t at *
    generalize x.norm = n at *
    refine Cb.ext' ?_ ?_ ?_
    · show x.a * (t.a * Fld.inv n) + CP.cr * (x.b * (t.c * Fld.inv n) + x.c * (t.b * Fld.inv n)) = 1
      grind
    · show x.a * (t.b * Fld.inv n) + x.b * (t.a * Fld.inv n) + CP.cr * (x.c * (t.c * Fld.inv n)) = 0
      grind
    · show x.a * (t.c * Fld.inv n) + x.b * (t.b * Fld.inv n) + x.c * (t.a * Fld.inv n) = 0
      grind
  one_ne := fun h => one_ne' (K := K) (congrArg Cb.a h)
end

end Go.Proofs.Ytchlamfdofpolaa
