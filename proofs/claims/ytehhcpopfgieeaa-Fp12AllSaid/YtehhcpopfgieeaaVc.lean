/- Threes and sixes of pairs by value: what fp6 and fp12 compute, in the fields V6 and V12. -/
import Derived.Test.YtehhcpopfgieeaaVb
import Derived.Test.YtehhcpopfgieeaaPk
set_option linter.unusedSimpArgs false
set_option linter.unusedVariables false
namespace Go.Proofs.Ytehhcpopfgieeaa
open Go.RowKit

def Fp6.ok (a : Fp6) : Prop := a.c0.ok ∧ a.c1.ok ∧ a.c2.ok
def Fp6.v (a : Fp6) : V6 := ⟨a.c0.v, a.c1.v, a.c2.v⟩
theorem Fp6.v_a (a : Fp6) : a.v.a = a.c0.v := rfl
theorem Fp6.v_b (a : Fp6) : a.v.b = a.c1.v := rfl
theorem Fp6.v_c (a : Fp6) : a.v.c = a.c2.v := rfl
theorem Fp6.mk_ok {a b c : Fp2} (ha : a.ok) (hb : b.ok) (hc : c.ok) : (⟨a, b, c⟩ : Fp6).ok := ⟨ha, hb, hc⟩
theorem Fp6.mk_v {a b c : Fp2} {x : V6} (ha : a.v = x.a) (hb : b.v = x.b) (hc : c.v = x.c) : (⟨a, b, c⟩ : Fp6).v = x := Cb.ext' ha hb hc
theorem Fp6.v_inj {a b : Fp6} (ha : a.ok) (hb : b.ok) (h : a.v = b.v) : a = b := by
  have h1 : a.c0 = b.c0 := Fp2.v_inj ha.1 hb.1 (congrArg Cb.a h)
  have h2 : a.c1 = b.c1 := Fp2.v_inj ha.2.1 hb.2.1 (congrArg Cb.b h)
  have h3 : a.c2 = b.c2 := Fp2.v_inj ha.2.2 hb.2.2 (congrArg Cb.c h)
  cases a; cases b
  simp only [] at h1 h2 h3
  subst h1 h2 h3
  rfl
theorem fp6Eq_v {a b : Fp6} (ha : a.ok) (hb : b.ok) : fp6Eq a b = true ↔ a.v = b.v := ⟨fun h => by rw [(fp6Eq_iff a b).1 h], fun h => (fp6Eq_iff a b).2 (Fp6.v_inj ha hb h)⟩

section
variable {f0 f1 : Fp2 → Fp2 → Fp2} {f2 : Fp2 → Fp2}
theorem mayF6_G_iff {f : Fp2 → Bool} (hf : ∀ x, f x = true ↔ x.ok) (a : Fp6) : mayF6_G f a = true ↔ a.ok := by
  unfold mayF6_G Fp6.ok
  rw [← hf, ← hf, ← hf]
  cases f a.c0 <;> cases f a.c1 <;> simp
theorem may6R_G_eq (f : Fp2 → Bool) (a : Fp6) : may6R_G f a = mayF6_G f a := rfl
end
theorem may6_iff (a : Fp6) : mayF6 a = true ↔ a.ok := mayF6_G_iff may2_iff a
theorem may6_eq (a : Fp6) : mayF6 a = may6R a := by
  have h : (may2R : Fp2 → Bool) = mayF2 := funext fun x => (may2_eq x).symm
  unfold may6R mayF6
  rw [may6R_G_eq, h]
theorem may6R_iff (a : Fp6) : may6R a = true ↔ a.ok := by rw [← may6_eq]; exact may6_iff a

theorem addF6_eq (a b : Fp6) : addF6 a b = ⟨addF2 a.c0 b.c0, addF2 a.c1 b.c1, addF2 a.c2 b.c2⟩ := by
  unfold addF6 addF6_G with6a with6a_G
  rfl
theorem subF6_eq (a b : Fp6) : subF6 a b = ⟨subF2 a.c0 b.c0, subF2 a.c1 b.c1, subF2 a.c2 b.c2⟩ := by
  unfold subF6 subF6_G with6s with6s_G
  rfl
theorem negF6_eq (a : Fp6) : negF6 a = subF6 zeroFp6 a := by unfold negF6 negF6_G; rfl
theorem upF6_eq (a : Fp6) : upF6 a = ⟨upF2 a.c2, a.c0, a.c1⟩ := by unfold upF6 upF6_G; rfl
theorem wholeF6_eq (a : Fp6) : wholeF6 a = ⟨wholeF2 a.c0, wholeF2 a.c1, wholeF2 a.c2⟩ := by unfold wholeF6 wholeF6_G; rfl
theorem lowF6_eq (a : Fp6) : lowF6 a = ⟨lowF2 a.c0, lowF2 a.c1, lowF2 a.c2⟩ := by unfold lowF6 lowF6_G; rfl
theorem mulF6_eq (a b : Fp6) : mulF6 a b = wholeF6 (halfF6 a b) := by unfold mulF6 mulF6_G; rfl
theorem halfF6_G_eq (f0 f1 : Fp2 → Fp2 → Fp2) (f2 : Fp2 → Fp2) (f3 : Nat → Nat → Fp6 → Fp6 → Fp2 → Fp2 → Fp2) (a b : Fp6) : halfF6_G f0 f1 f2 f3 a b = ⟨f1 (f0 a.c0 b.c0) (f2 (f3 1 2 a b (f0 a.c1 b.c1) (f0 a.c2 b.c2))), f1 (f3 0 1 a b (f0 a.c0 b.c0) (f0 a.c1 b.c1)) (f2 (f0 a.c2 b.c2)), f1 (f3 0 2 a b (f0 a.c0 b.c0) (f0 a.c2 b.c2)) (f0 a.c1 b.c1)⟩ := rfl
theorem halfF6_eq (a b : Fp6) : halfF6 a b = ⟨addF2 (halfF2 a.c0 b.c0) (upF2 (crossF 1 2 a b (halfF2 a.c1 b.c1) (halfF2 a.c2 b.c2))), addF2 (crossF 0 1 a b (halfF2 a.c0 b.c0) (halfF2 a.c1 b.c1)) (upF2 (halfF2 a.c2 b.c2)), addF2 (crossF 0 2 a b (halfF2 a.c0 b.c0) (halfF2 a.c2 b.c2)) (halfF2 a.c1 b.c1)⟩ := halfF6_G_eq halfF2 addF2 upF2 crossF a b

theorem zero_ok6 : zeroFp6.ok := ⟨zero_ok2, zero_ok2, zero_ok2⟩
theorem v_zero6 : zeroFp6.v = 0 := Cb.ext' v_zero2 v_zero2 v_zero2
theorem one_ok6 : oneFp6.ok := ⟨one_ok2, zero_ok2, zero_ok2⟩
theorem v_one6 : oneFp6.v = 1 := Cb.ext' v_one2 v_zero2 v_zero2
theorem v_ok6 : vFp6.ok := ⟨zero_ok2, one_ok2, zero_ok2⟩
theorem v_v6 : vFp6.v = vv := Cb.ext' v_zero2 v_one2 v_zero2
theorem v_eq_zero6 {a : Fp6} (ha : a.ok) : a.v = 0 ↔ a = zeroFp6 := ⟨fun h => Fp6.v_inj ha zero_ok6 (by rw [h, v_zero6]), fun h => by rw [h, v_zero6]⟩
theorem add_ok6 {a b : Fp6} (ha : a.ok) (hb : b.ok) : (addF6 a b).ok := by rw [addF6_eq]; exact Fp6.mk_ok (add_ok2 ha.1 hb.1) (add_ok2 ha.2.1 hb.2.1) (add_ok2 ha.2.2 hb.2.2)
theorem v_add6 {a b : Fp6} (ha : a.ok) (hb : b.ok) : (addF6 a b).v = a.v + b.v := by rw [addF6_eq]; exact Fp6.mk_v (v_add2 ha.1 hb.1) (v_add2 ha.2.1 hb.2.1) (v_add2 ha.2.2 hb.2.2)
theorem sub_ok6 {a b : Fp6} (ha : a.ok) (hb : b.ok) : (subF6 a b).ok := by rw [subF6_eq]; exact Fp6.mk_ok (sub_ok2 ha.1 hb.1) (sub_ok2 ha.2.1 hb.2.1) (sub_ok2 ha.2.2 hb.2.2)
theorem v_sub6 {a b : Fp6} (ha : a.ok) (hb : b.ok) : (subF6 a b).v = a.v - b.v := by rw [subF6_eq]; exact Fp6.mk_v (v_sub2 ha.1 hb.1) (v_sub2 ha.2.1 hb.2.1) (v_sub2 ha.2.2 hb.2.2)
theorem neg_ok6 {a : Fp6} (ha : a.ok) : (negF6 a).ok := by rw [negF6_eq]; exact sub_ok6 zero_ok6 ha
theorem zero_sub' {R : Type} [CR R] (x : R) : 0 - x = -x := by grind
theorem v_neg6 {a : Fp6} (ha : a.ok) : (negF6 a).v = -a.v := by rw [negF6_eq, v_sub6 zero_ok6 ha, v_zero6]; exact zero_sub' _
theorem up_ok6 {a : Fp6} (ha : a.ok) : (upF6 a).ok := by rw [upF6_eq]; exact Fp6.mk_ok (up_ok2 ha.2.2) ha.1 ha.2.1
/-- What times v is, in any such extension. -/
theorem up_cb {K : Type} [CR K] [CP K] (x : Cb K) : (⟨0, 1, 0⟩ : Cb K) * x = ⟨CP.cr * x.c, x.a, x.b⟩ := Cb.ext'
  (by rw [Cb.mul_a]; show 0 * x.a + CP.cr * (1 * x.c + 0 * x.b) = _; grind)
  (by rw [Cb.mul_b]; show 0 * x.b + 1 * x.a + CP.cr * (0 * x.c) = _; grind)
  (by rw [Cb.mul_c]; show 0 * x.c + 1 * x.b + 0 * x.a = _; grind)
theorem v_up6 {a : Fp6} (ha : a.ok) : (upF6 a).v = vv * a.v := by
  have e : vv * a.v = ⟨xi * a.c2.v, a.c0.v, a.c1.v⟩ := up_cb a.v
  rw [upF6_eq, e]
  exact Fp6.mk_v (v_up2 ha.2.2) rfl rfl
def rv6 : V6 := Cb.of rv2
def ri6 : V6 := Cb.of ri2
theorem Cb.of_mul {K : Type} [CR K] [CP K] (x y : K) : Cb.of (x * y) = Cb.of x * Cb.of y := Cb.ext'
  (by rw [Cb.mul_a]; show x * y = x * y + CP.cr * (0 * 0 + 0 * 0); grind)
  (by rw [Cb.mul_b]; show 0 = x * 0 + 0 * y + CP.cr * (0 * 0); grind)
  (by rw [Cb.mul_c]; show 0 = x * 0 + 0 * 0 + 0 * y; grind)
theorem Cb.of_times {K : Type} [CR K] [CP K] (k : K) (x : Cb K) : Cb.of k * x = ⟨k * x.a, k * x.b, k * x.c⟩ := Cb.ext'
  (by rw [Cb.mul_a]; show k * x.a + CP.cr * (0 * x.c + 0 * x.b) = _; grind)
  (by rw [Cb.mul_b]; show k * x.b + 0 * x.a + CP.cr * (0 * x.c) = _; grind)
  (by rw [Cb.mul_c]; show k * x.c + 0 * x.b + 0 * x.a = _; grind)
theorem rv_ri6 : rv6 * ri6 = 1 := by unfold rv6 ri6; rw [← Cb.of_mul, rv_ri2]; rfl
theorem whole_ok6 {a : Fp6} (ha : a.ok) : (wholeF6 a).ok := by rw [wholeF6_eq]; exact Fp6.mk_ok (whole_ok2 ha.1) (whole_ok2 ha.2.1) (whole_ok2 ha.2.2)
theorem v_whole6 {a : Fp6} (ha : a.ok) : (wholeF6 a).v = rv6 * a.v := by
  unfold rv6
  rw [wholeF6_eq, Cb.of_times]
  exact Fp6.mk_v (v_whole2 ha.1) (v_whole2 ha.2.1) (v_whole2 ha.2.2)
theorem low_ok6 {a : Fp6} (ha : a.ok) : (lowF6 a).ok := by rw [lowF6_eq]; exact Fp6.mk_ok (low_ok2 ha.1) (low_ok2 ha.2.1) (low_ok2 ha.2.2)
theorem v_low6 {a : Fp6} (ha : a.ok) : (lowF6 a).v = ri6 * a.v := by
  unfold ri6
  rw [lowF6_eq, Cb.of_times]
  exact Fp6.mk_v (v_low2 ha.1) (v_low2 ha.2.1) (v_low2 ha.2.2)
theorem cross_v {a0 a1 b0 b1 : Fp2} (h0 : a0.ok) (h1 : a1.ok) (k0 : b0.ok) (k1 : b1.ok) : (subF2 (halfF2 (addF2 a0 a1) (addF2 b0 b1)) (addF2 (halfF2 a0 b0) (halfF2 a1 b1))).ok ∧ (subF2 (halfF2 (addF2 a0 a1) (addF2 b0 b1)) (addF2 (halfF2 a0 b0) (halfF2 a1 b1))).v = ri2 * (a0.v * b1.v + a1.v * b0.v) := by
  have e1 := half_ok2 (add_ok2 h0 h1) (add_ok2 k0 k1)
  have e2 := half_ok2 h0 k0
  have e3 := half_ok2 h1 k1
  refine ⟨sub_ok2 e1 (add_ok2 e2 e3), ?_⟩
  rw [v_sub2 e1 (add_ok2 e2 e3), v_half2 (add_ok2 h0 h1) (add_ok2 k0 k1), v_add2 e2 e3, v_half2 h0 k0, v_half2 h1 k1, v_add2 h0 h1, v_add2 k0 k1]
  grind
theorem crossF_12 (a b : Fp6) (x y : Fp2) : crossF 1 2 a b x y = subF2 (halfF2 (addF2 a.c1 a.c2) (addF2 b.c1 b.c2)) (addF2 x y) := rfl
theorem crossF_01 (a b : Fp6) (x y : Fp2) : crossF 0 1 a b x y = subF2 (halfF2 (addF2 a.c0 a.c1) (addF2 b.c0 b.c1)) (addF2 x y) := rfl
theorem crossF_02 (a b : Fp6) (x y : Fp2) : crossF 0 2 a b x y = subF2 (halfF2 (addF2 a.c0 a.c2) (addF2 b.c0 b.c2)) (addF2 x y) := rfl
theorem mul_scaled {K : Type} [CR K] [CP K] (k : K) (x y : Cb K) : Cb.of k * (x * y) = ⟨k * (x.a * y.a) + CP.cr * (k * (x.b * y.c + x.c * y.b)), k * (x.a * y.b + x.b * y.a) + CP.cr * (k * (x.c * y.c)), k * (x.a * y.c + x.c * y.a) + k * (x.b * y.b)⟩ := by
  rw [Cb.of_times]
  exact Cb.ext' (by rw [Cb.mul_a]; grind) (by rw [Cb.mul_b]; grind) (by rw [Cb.mul_c]; grind)
theorem half_v6 {a b : Fp6} (ha : a.ok) (hb : b.ok) : (halfF6 a b).ok ∧ (halfF6 a b).v = ri6 * (a.v * b.v) := by
  obtain ⟨p1, p2⟩ := cross_v ha.2.1 ha.2.2 hb.2.1 hb.2.2
  obtain ⟨q1, q2⟩ := cross_v ha.1 ha.2.1 hb.1 hb.2.1
  obtain ⟨r1, r2⟩ := cross_v ha.1 ha.2.2 hb.1 hb.2.2
  have h0 := half_ok2 ha.1 hb.1
  have h1 := half_ok2 ha.2.1 hb.2.1
  have h2 := half_ok2 ha.2.2 hb.2.2
  have e : ri6 * (a.v * b.v) = _ := mul_scaled ri2 a.v b.v
  rw [halfF6_eq, e, crossF_12, crossF_01, crossF_02]
  refine ⟨Fp6.mk_ok (add_ok2 h0 (up_ok2 p1)) (add_ok2 q1 (up_ok2 h2)) (add_ok2 r1 h1), Fp6.mk_v ?_ ?_ ?_⟩
  · rw [v_add2 h0 (up_ok2 p1), v_up2 p1, p2, v_half2 ha.1 hb.1]
    rfl
  · rw [v_add2 q1 (up_ok2 h2), v_up2 h2, q2, v_half2 ha.2.2 hb.2.2]
    rfl
  · rw [v_add2 r1 h1, r2, v_half2 ha.2.1 hb.2.1]
    rfl
theorem half_ok6 {a b : Fp6} (ha : a.ok) (hb : b.ok) : (halfF6 a b).ok := (half_v6 ha hb).1
theorem v_half6 {a b : Fp6} (ha : a.ok) (hb : b.ok) : (halfF6 a b).v = ri6 * (a.v * b.v) := (half_v6 ha hb).2
theorem mul_ok6 {a b : Fp6} (ha : a.ok) (hb : b.ok) : (mulF6 a b).ok := by rw [mulF6_eq]; exact whole_ok6 (half_ok6 ha hb)
theorem whole_half {R : Type} [CR R] {r i x y : R} (h : r * i = 1) : r * (i * (x * y)) = x * y := by grind
theorem v_mul6 {a b : Fp6} (ha : a.ok) (hb : b.ok) : (mulF6 a b).v = a.v * b.v := by
  rw [mulF6_eq, v_whole6 (half_ok6 ha hb), v_half6 ha hb]
  exact whole_half rv_ri6

/-! the inverse of a three -/
theorem invF6_no {f0 f1 f3 : Fp2 → Fp2 → Fp2} {f2 : Fp2 → Fp2} {f4 : Fp2 → Fp2 × Int} {a : Fp6} {d : Fp2} (hd : f3 (f1 a.c0 (f0 (f1 a.c0 a.c0) (f2 (f1 a.c1 a.c2)))) (f2 (f3 (f1 a.c2 (f0 (f2 (f1 a.c2 a.c2)) (f1 a.c0 a.c1))) (f1 a.c1 (f0 (f1 a.c1 a.c1) (f1 a.c0 a.c2))))) = d) (h : (f4 d).2 = 7) : invF6_G f0 f1 f2 f3 f4 a = (zeroFp6, 7) := by
  unfold invF6_G
  rw [hd, h]
  rfl
theorem invF6_yes {f0 f1 f3 : Fp2 → Fp2 → Fp2} {f2 : Fp2 → Fp2} {f4 : Fp2 → Fp2 × Int} {a : Fp6} {d : Fp2} (hd : f3 (f1 a.c0 (f0 (f1 a.c0 a.c0) (f2 (f1 a.c1 a.c2)))) (f2 (f3 (f1 a.c2 (f0 (f2 (f1 a.c2 a.c2)) (f1 a.c0 a.c1))) (f1 a.c1 (f0 (f1 a.c1 a.c1) (f1 a.c0 a.c2))))) = d) (h : (f4 d).2 = 0) :
    invF6_G f0 f1 f2 f3 f4 a = (⟨f1 (f0 (f1 a.c0 a.c0) (f2 (f1 a.c1 a.c2))) (f4 d).1, f1 (f0 (f2 (f1 a.c2 a.c2)) (f1 a.c0 a.c1)) (f4 d).1, f1 (f0 (f1 a.c1 a.c1) (f1 a.c0 a.c2)) (f4 d).1⟩, 0) := by
  unfold invF6_G
  rw [hd, h]
  rfl
theorem adj_v {a : Fp6} (ha : a.ok) : (subF2 (mulF2 a.c0 a.c0) (upF2 (mulF2 a.c1 a.c2))).ok ∧ (subF2 (mulF2 a.c0 a.c0) (upF2 (mulF2 a.c1 a.c2))).v = a.v.adj.a ∧
    (subF2 (upF2 (mulF2 a.c2 a.c2)) (mulF2 a.c0 a.c1)).ok ∧ (subF2 (upF2 (mulF2 a.c2 a.c2)) (mulF2 a.c0 a.c1)).v = a.v.adj.b ∧ (subF2 (mulF2 a.c1 a.c1) (mulF2 a.c0 a.c2)).ok ∧ (subF2 (mulF2 a.c1 a.c1) (mulF2 a.c0 a.c2)).v = a.v.adj.c := by
  obtain ⟨h0, h1, h2⟩ := ha
  have m00 := mul_ok2 h0 h0
  have m12 := mul_ok2 h1 h2
  have m22 := mul_ok2 h2 h2
  have m01 := mul_ok2 h0 h1
  have m11 := mul_ok2 h1 h1
  have m02 := mul_ok2 h0 h2
  refine ⟨sub_ok2 m00 (up_ok2 m12), ?_, sub_ok2 (up_ok2 m22) m01, ?_, sub_ok2 m11 m02, ?_⟩
  · rw [v_sub2 m00 (up_ok2 m12), v_up2 m12, v_mul2 h0 h0, v_mul2 h1 h2]
    rfl
  · rw [v_sub2 (up_ok2 m22) m01, v_up2 m22, v_mul2 h2 h2, v_mul2 h0 h1]
    rfl
  · rw [v_sub2 m11 m02, v_mul2 h1 h1, v_mul2 h0 h2]
    rfl
def detF6 (a : Fp6) : Fp2 := addF2 (mulF2 a.c0 (subF2 (mulF2 a.c0 a.c0) (upF2 (mulF2 a.c1 a.c2)))) (upF2 (addF2 (mulF2 a.c2 (subF2 (upF2 (mulF2 a.c2 a.c2)) (mulF2 a.c0 a.c1))) (mulF2 a.c1 (subF2 (mulF2 a.c1 a.c1) (mulF2 a.c0 a.c2)))))
theorem det_v {a : Fp6} (ha : a.ok) : (detF6 a).ok ∧ (detF6 a).v = a.v.norm := by
  obtain ⟨p0, q0, p1, q1, p2, q2⟩ := adj_v ha
  obtain ⟨h0, h1, h2⟩ := ha
  unfold detF6
  generalize subF2 (mulF2 a.c0 a.c0) (upF2 (mulF2 a.c1 a.c2)) = x at *
  generalize subF2 (upF2 (mulF2 a.c2 a.c2)) (mulF2 a.c0 a.c1) = y at *
  generalize subF2 (mulF2 a.c1 a.c1) (mulF2 a.c0 a.c2) = z at *
  have m0 := mul_ok2 h0 p0
  have m2 := mul_ok2 h2 p1
  have m1 := mul_ok2 h1 p2
  refine ⟨add_ok2 m0 (up_ok2 (add_ok2 m2 m1)), ?_⟩
  rw [v_add2 m0 (up_ok2 (add_ok2 m2 m1)), v_up2 (add_ok2 m2 m1), v_add2 m2 m1, v_mul2 h0 p0, v_mul2 h2 p1, v_mul2 h1 p2, q0, q1, q2]
  rfl
theorem Cb.norm_zero {K : Type} [CR K] [CP K] : (0 : Cb K).norm = 0 := by
  unfold Cb.norm
  show (0 : K) * (0 * 0 - CP.cr * (0 * 0)) + CP.cr * (0 * (CP.cr * (0 * 0) - 0 * 0) + 0 * (0 * 0 - 0 * 0)) = 0
  grind
theorem V6.norm_ne {x : V6} (h : x ≠ 0) : x.norm ≠ 0 := fun e => by
  have h1 := Cb.mul_adj x
  have h2 := mul_inv' h
  have h3 : x * Fld.inv x = 1 := h2
  have h4 := Cb.norm_mul x (Fld.inv x)
  rw [h3, e] at h4
  have h5 : (1 : V6).norm = 1 := by
    unfold Cb.norm
    show (1 : V2) * (1 * 1 - CP.cr * (0 * 0)) + CP.cr * (0 * (CP.cr * (0 * 0) - 1 * 0) + 0 * (0 * 0 - 1 * 0)) = 1
    generalize (CP.cr : V2) = k
    grind
  rw [h5] at h4
  exact one_ne' (K := V2) (by rw [h4]; exact CR.zero_mul _)
theorem V6.inv_eq {x : V6} (h : x ≠ 0) : Fld.inv x = Cb.of (Fld.inv x.norm) * x.adj := by
  refine (inv_unique' ?_).symm
  have h1 := Cb.mul_adj x
  have h2 : Cb.of x.norm * Cb.of (Fld.inv x.norm) = (1 : V6) := by rw [← Cb.of_mul, mul_inv' (V6.norm_ne h)]; rfl
  generalize Cb.of (Fld.inv x.norm) = k at *
  rw [← h1] at h2
  generalize x.adj = y at *
  grind
theorem inv_v6 {a : Fp6} (ha : a.ok) : (a.v = 0 → invF6 a = (zeroFp6, 7)) ∧ (a.v ≠ 0 → (invF6 a).2 = 0 ∧ (invF6 a).1.ok ∧ (invF6 a).1.v = Fld.inv a.v) := by
  obtain ⟨d1, d2⟩ := det_v ha
  obtain ⟨h1, h2⟩ := inv_v2 d1
  rw [d2] at h1 h2
  unfold invF6
  constructor
  · intro h
    exact invF6_no (d := detF6 a) rfl (congrArg Prod.snd (h1 (by rw [h]; exact Cb.norm_zero)))
  · intro h
    obtain ⟨i1, i2, i3⟩ := h2 (V6.norm_ne h)
    obtain ⟨p0, q0, p1, q1, p2, q2⟩ := adj_v ha
    rw [invF6_yes (d := detF6 a) rfl i1]
    simp only []
    refine ⟨trivial, Fp6.mk_ok (mul_ok2 p0 i2) (mul_ok2 p1 i2) (mul_ok2 p2 i2), ?_⟩
    rw [V6.inv_eq h, Cb.of_times]
    refine Fp6.mk_v ?_ ?_ ?_
    · rw [v_mul2 p0 i2, q0, i3]; exact CR.mul_comm _ _
    · rw [v_mul2 p1 i2, q1, i3]; exact CR.mul_comm _ _
    · rw [v_mul2 p2 i2, q2, i3]; exact CR.mul_comm _ _

/-! the document's threes -/
theorem add6R_G_eq (f : Fp2 → Fp2 → Fp2) (a b : Fp6) : add6R_G f a b = ⟨f a.c0 b.c0, f a.c1 b.c1, f a.c2 b.c2⟩ := rfl
theorem sub6R_G_eq (f : Fp2 → Fp2 → Fp2) (a b : Fp6) : sub6R_G f a b = ⟨f a.c0 b.c0, f a.c1 b.c1, f a.c2 b.c2⟩ := rfl
theorem neg6R_G_eq (f : Fp6 → Fp6 → Fp6) (a : Fp6) : neg6R_G f a = f zeroFp6 a := rfl
theorem up6R_G_eq (f : Fp2 → Fp2 → Fp2) (x : Fp2) (a : Fp6) : up6R_G f x a = ⟨f a.c2 x, a.c0, a.c1⟩ := rfl
theorem add6R_eq (a b : Fp6) : add6R a b = addF6 a b := by
  unfold add6R
  rw [add6R_G_eq, add2R_eq, add2R_eq, add2R_eq, addF6_eq]
theorem sub6R_eq (a b : Fp6) : sub6R a b = subF6 a b := by
  unfold sub6R
  rw [sub6R_G_eq, sub2R_eq, sub2R_eq, sub2R_eq, subF6_eq]
theorem neg6R_eq (a : Fp6) : neg6R a = negF6 a := by
  unfold neg6R
  rw [neg6R_G_eq, sub6R_eq, negF6_eq]
theorem up2_mul {a : Fp2} (ha : a.ok) : mul2R a xi2R = upF2 a := by
  rw [mul2R_eq ha xi_ok2]
  refine Fp2.v_inj (mul_ok2 ha xi_ok2) (up_ok2 ha) ?_
  rw [v_mul2 ha xi_ok2, v_up2 ha, v_xi2, CR.mul_comm]
theorem up6R_eq {a : Fp6} (ha : a.ok) : up6R a = upF6 a := by
  unfold up6R
  rw [up6R_G_eq, up2_mul ha.2.2, upF6_eq]
theorem mul6R_G_eq (f0 f1 : Fp2 → Fp2 → Fp2) (x : Fp2) (a b : Fp6) : mul6R_G f0 f1 x a b =
    ⟨f0 (f0 zeroFp2 (f1 a.c0 b.c0)) (f1 (f0 (f0 zeroFp2 (f1 a.c1 b.c2)) (f1 a.c2 b.c1)) x), f0 (f0 (f0 zeroFp2 (f1 a.c0 b.c1)) (f1 a.c1 b.c0)) (f1 (f0 zeroFp2 (f1 a.c2 b.c2)) x), f0 (f0 (f0 zeroFp2 (f1 a.c0 b.c2)) (f1 a.c1 b.c1)) (f1 a.c2 b.c0)⟩ := rfl
theorem mul6R_eq {a b : Fp6} (ha : a.ok) (hb : b.ok) : mul6R a b = mulF6 a b := by
  obtain ⟨a0, a1, a2⟩ := ha
  obtain ⟨b0, b1, b2⟩ := hb
  have z := zero_ok2
  have m {x y : Fp2} (hx : x.ok) (hy : y.ok) : (mul2R x y).ok ∧ (mul2R x y).v = x.v * y.v := by rw [mul2R_eq hx hy]; exact ⟨mul_ok2 hx hy, v_mul2 hx hy⟩
  have s {x y : Fp2} (hx : x.ok) (hy : y.ok) : (add2R x y).ok ∧ (add2R x y).v = x.v + y.v := by rw [add2R_eq]; exact ⟨add_ok2 hx hy, v_add2 hx hy⟩
  unfold mul6R
  rw [mul6R_G_eq]
  have c00 := s z (m a0 b0).1
  have c12 := s z (m a1 b2).1
  have c12' := s c12.1 (m a2 b1).1
  have c01 := s z (m a0 b1).1
  have c01' := s c01.1 (m a1 b0).1
  have c22 := s z (m a2 b2).1
  have c02 := s z (m a0 b2).1
  have c02' := s c02.1 (m a1 b1).1
  have t0 := s c00.1 (m c12'.1 xi_ok2).1
  have t1 := s c01'.1 (m c22.1 xi_ok2).1
  have t2 := s c02'.1 (m a2 b0).1
  refine Fp6.v_inj (Fp6.mk_ok t0.1 t1.1 t2.1) (mul_ok6 ⟨a0, a1, a2⟩ ⟨b0, b1, b2⟩) ?_
  rw [v_mul6 ⟨a0, a1, a2⟩ ⟨b0, b1, b2⟩]
  refine Fp6.mk_v ?_ ?_ ?_
  · rw [t0.2, c00.2, (m c12'.1 xi_ok2).2, c12'.2, c12.2, (m a0 b0).2, (m a1 b2).2, (m a2 b1).2, v_zero2, v_xi2, Cb.mul_a, V2.cr_eq, Fp6.v_a, Fp6.v_a, Fp6.v_b, Fp6.v_b, Fp6.v_c, Fp6.v_c]
    generalize xi = k
    grind
  · rw [t1.2, c01'.2, (m c22.1 xi_ok2).2, c22.2, c01.2, (m a0 b1).2, (m a1 b0).2, (m a2 b2).2, v_zero2, v_xi2, Cb.mul_b, V2.cr_eq, Fp6.v_a, Fp6.v_a, Fp6.v_b, Fp6.v_b, Fp6.v_c, Fp6.v_c]
    generalize xi = k
    grind
  · rw [t2.2, c02'.2, c02.2, (m a0 b2).2, (m a1 b1).2, (m a2 b0).2, v_zero2, Cb.mul_c, Fp6.v_a, Fp6.v_a, Fp6.v_b, Fp6.v_b, Fp6.v_c, Fp6.v_c]
    grind
theorem inv6R_no {f0 f1 f3 : Fp2 → Fp2 → Fp2} {f2 : Fp2} {f4 : Fp2 → Fp2 × Int} {a : Fp6} {d : Fp2} (hd : f3 (f1 a.c0 (f0 (f1 a.c0 a.c0) (f1 (f1 a.c1 a.c2) f2))) (f1 (f3 (f1 a.c2 (f0 (f1 (f1 a.c2 a.c2) f2) (f1 a.c0 a.c1))) (f1 a.c1 (f0 (f1 a.c1 a.c1) (f1 a.c0 a.c2)))) f2) = d) (h : (f4 d).2 = 7) : inv6R_G f0 f1 f2 f3 f4 a = (zeroFp6, 7) := by
  unfold inv6R_G
  rw [hd, h]
  rfl
theorem inv6R_yes {f0 f1 f3 : Fp2 → Fp2 → Fp2} {f2 : Fp2} {f4 : Fp2 → Fp2 × Int} {a : Fp6} {d : Fp2} (hd : f3 (f1 a.c0 (f0 (f1 a.c0 a.c0) (f1 (f1 a.c1 a.c2) f2))) (f1 (f3 (f1 a.c2 (f0 (f1 (f1 a.c2 a.c2) f2) (f1 a.c0 a.c1))) (f1 a.c1 (f0 (f1 a.c1 a.c1) (f1 a.c0 a.c2)))) f2) = d) (h : (f4 d).2 = 0) :
    inv6R_G f0 f1 f2 f3 f4 a = (⟨f1 (f0 (f1 a.c0 a.c0) (f1 (f1 a.c1 a.c2) f2)) (f4 d).1, f1 (f0 (f1 (f1 a.c2 a.c2) f2) (f1 a.c0 a.c1)) (f4 d).1, f1 (f0 (f1 a.c1 a.c1) (f1 a.c0 a.c2)) (f4 d).1⟩, 0) := by
  unfold inv6R_G
  rw [hd, h]
  rfl
theorem inv6R_eq {a : Fp6} (ha : a.ok) : inv6R a = invF6 a := by
  have ha' := ha
  obtain ⟨p0, q0, p1, q1, p2, q2⟩ := adj_v ha
  obtain ⟨d1, d2⟩ := det_v ha
  obtain ⟨h0, h1, h2⟩ := ha
  have m12 := mul_ok2 h1 h2
  have m22 := mul_ok2 h2 h2
  have e0 : sub2R (mul2R a.c0 a.c0) (mul2R (mul2R a.c1 a.c2) xi2R) = subF2 (mulF2 a.c0 a.c0) (upF2 (mulF2 a.c1 a.c2)) := by rw [sub2R_eq, mul2R_eq h0 h0, mul2R_eq h1 h2, up2_mul m12]
  have e1 : sub2R (mul2R (mul2R a.c2 a.c2) xi2R) (mul2R a.c0 a.c1) = subF2 (upF2 (mulF2 a.c2 a.c2)) (mulF2 a.c0 a.c1) := by rw [sub2R_eq, mul2R_eq h2 h2, mul2R_eq h0 h1, up2_mul m22]
  have e2 : sub2R (mul2R a.c1 a.c1) (mul2R a.c0 a.c2) = subF2 (mulF2 a.c1 a.c1) (mulF2 a.c0 a.c2) := by rw [sub2R_eq, mul2R_eq h1 h1, mul2R_eq h0 h2]
  have ed : add2R (mul2R a.c0 (sub2R (mul2R a.c0 a.c0) (mul2R (mul2R a.c1 a.c2) xi2R))) (mul2R (add2R (mul2R a.c2 (sub2R (mul2R (mul2R a.c2 a.c2) xi2R) (mul2R a.c0 a.c1))) (mul2R a.c1 (sub2R (mul2R a.c1 a.c1) (mul2R a.c0 a.c2)))) xi2R) = detF6 a := by
    rw [e0, e1, e2, add2R_eq, add2R_eq, mul2R_eq h0 p0, mul2R_eq h2 p1, mul2R_eq h1 p2, up2_mul (add_ok2 (mul_ok2 h2 p1) (mul_ok2 h1 p2))]
    rfl
  have ei := inv2R_eq d1
  obtain ⟨k1, k2⟩ := inv_v2 d1
  unfold inv6R invF6
  by_cases h : (detF6 a).v = 0
  · have k := congrArg Prod.snd (k1 h)
    rw [inv6R_no ed (by rw [ei]; exact k), invF6_no (d := detF6 a) rfl k]
  · obtain ⟨i1, i2, i3⟩ := k2 h
    rw [inv6R_yes ed (by rw [ei]; exact i1), invF6_yes (d := detF6 a) rfl i1, e0, e1, e2, ei, mul2R_eq p0 i2, mul2R_eq p1 i2, mul2R_eq p2 i2]

end Go.Proofs.Ytehhcpopfgieeaa
