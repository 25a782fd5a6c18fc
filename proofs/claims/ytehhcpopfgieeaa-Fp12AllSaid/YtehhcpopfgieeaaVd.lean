/- Sixes of pairs by value: what fp12 computes, in the field V12. -/
import Derived.Test.YtehhcpopfgieeaaVc
set_option linter.unusedSimpArgs false
set_option linter.unusedVariables false
namespace Go.Proofs.Ytehhcpopfgieeaa
open Go.RowKit

def Fp12.ok (a : Fp12) : Prop := a.c0.ok ∧ a.c1.ok
def Fp12.v (a : Fp12) : V12 := ⟨a.c0.v, a.c1.v⟩
theorem Fp12.v_a (a : Fp12) : a.v.a = a.c0.v := rfl
theorem Fp12.v_b (a : Fp12) : a.v.b = a.c1.v := rfl
theorem Fp12.mk_ok {a b : Fp6} (ha : a.ok) (hb : b.ok) : (⟨a, b⟩ : Fp12).ok := ⟨ha, hb⟩
theorem Fp12.mk_v {a b : Fp6} {x : V12} (ha : a.v = x.a) (hb : b.v = x.b) : (⟨a, b⟩ : Fp12).v = x := Qd.ext' ha hb
theorem Fp12.v_inj {a b : Fp12} (ha : a.ok) (hb : b.ok) (h : a.v = b.v) : a = b := by
  have h1 : a.c0 = b.c0 := Fp6.v_inj ha.1 hb.1 (congrArg Qd.a h)
  have h2 : a.c1 = b.c1 := Fp6.v_inj ha.2 hb.2 (congrArg Qd.b h)
  cases a; cases b
  simp only [] at h1 h2
  subst h1 h2
  rfl
theorem fp12Eq_v {a b : Fp12} (ha : a.ok) (hb : b.ok) : fp12Eq a b = true ↔ a.v = b.v := ⟨fun h => by rw [(fp12Eq_iff a b).1 h], fun h => (fp12Eq_iff a b).2 (Fp12.v_inj ha hb h)⟩

theorem mayF12_G_iff {f : Fp6 → Bool} (hf : ∀ x, f x = true ↔ x.ok) (a : Fp12) : mayF12_G f a = true ↔ a.ok := by
  unfold mayF12_G Fp12.ok
  rw [← hf, ← hf]
  cases f a.c0 <;> simp
theorem may12R_G_eq (f : Fp6 → Bool) (a : Fp12) : may12R_G f a = mayF12_G f a := rfl
theorem may12_iff (a : Fp12) : mayF12 a = true ↔ a.ok := mayF12_G_iff may6_iff a
theorem may12_eq (a : Fp12) : mayF12 a = may12R a := by
  have h : (may6R : Fp6 → Bool) = mayF6 := funext fun x => (may6_eq x).symm
  unfold may12R mayF12
  rw [may12R_G_eq, h]
theorem may12R_iff (a : Fp12) : may12R a = true ↔ a.ok := by rw [← may12_eq]; exact may12_iff a

theorem addF12_eq (a b : Fp12) : addF12 a b = ⟨addF6 a.c0 b.c0, addF6 a.c1 b.c1⟩ := by unfold addF12 addF12_G; rfl
theorem subF12_eq (a b : Fp12) : subF12 a b = ⟨subF6 a.c0 b.c0, subF6 a.c1 b.c1⟩ := by unfold subF12 subF12_G; rfl
theorem conjF12_eq (a : Fp12) : conjF12 a = ⟨a.c0, negF6 a.c1⟩ := by unfold conjF12 conjF12_G; rfl
theorem wholeF12_eq (a : Fp12) : wholeF12 a = ⟨wholeF6 a.c0, wholeF6 a.c1⟩ := by unfold wholeF12 wholeF12_G; rfl
theorem lowF12_eq (a : Fp12) : lowF12 a = ⟨lowF6 a.c0, lowF6 a.c1⟩ := by unfold lowF12 lowF12_G; rfl
theorem mulF12_eq (a b : Fp12) : mulF12 a b = wholeF12 (halfF12 a b) := by unfold mulF12 mulF12_G; rfl
theorem halfF12_G_eq (f0 f1 f2 : Fp6 → Fp6 → Fp6) (f3 : Fp6 → Fp6) (a b : Fp12) : halfF12_G f0 f1 f2 f3 a b = ⟨f1 (f0 a.c0 b.c0) (f3 (f0 a.c1 b.c1)), f2 (f0 (f1 a.c0 a.c1) (f1 b.c0 b.c1)) (f1 (f0 a.c0 b.c0) (f0 a.c1 b.c1))⟩ := rfl
theorem halfF12_eq (a b : Fp12) : halfF12 a b = ⟨addF6 (halfF6 a.c0 b.c0) (upF6 (halfF6 a.c1 b.c1)), subF6 (halfF6 (addF6 a.c0 a.c1) (addF6 b.c0 b.c1)) (addF6 (halfF6 a.c0 b.c0) (halfF6 a.c1 b.c1))⟩ := halfF12_G_eq halfF6 addF6 subF6 upF6 a b
theorem oneF12_eq : oneF12 = oneFp12 := rfl

theorem zero_ok12 : zeroFp12.ok := ⟨zero_ok6, zero_ok6⟩
theorem v_zero12 : zeroFp12.v = 0 := Qd.ext' v_zero6 v_zero6
theorem one_ok12 : oneFp12.ok := ⟨one_ok6, zero_ok6⟩
theorem v_one12 : oneFp12.v = 1 := Qd.ext' v_one6 v_zero6
theorem v_eq_zero12 {a : Fp12} (ha : a.ok) : a.v = 0 ↔ a = zeroFp12 := ⟨fun h => Fp12.v_inj ha zero_ok12 (by rw [h, v_zero12]), fun h => by rw [h, v_zero12]⟩
theorem add_ok12 {a b : Fp12} (ha : a.ok) (hb : b.ok) : (addF12 a b).ok := by rw [addF12_eq]; exact Fp12.mk_ok (add_ok6 ha.1 hb.1) (add_ok6 ha.2 hb.2)
theorem v_add12 {a b : Fp12} (ha : a.ok) (hb : b.ok) : (addF12 a b).v = a.v + b.v := by rw [addF12_eq]; exact Fp12.mk_v (v_add6 ha.1 hb.1) (v_add6 ha.2 hb.2)
theorem sub_ok12 {a b : Fp12} (ha : a.ok) (hb : b.ok) : (subF12 a b).ok := by rw [subF12_eq]; exact Fp12.mk_ok (sub_ok6 ha.1 hb.1) (sub_ok6 ha.2 hb.2)
theorem v_sub12 {a b : Fp12} (ha : a.ok) (hb : b.ok) : (subF12 a b).v = a.v - b.v := by rw [subF12_eq]; exact Fp12.mk_v (v_sub6 ha.1 hb.1) (v_sub6 ha.2 hb.2)
theorem conj_ok12 {a : Fp12} (ha : a.ok) : (conjF12 a).ok := by rw [conjF12_eq]; exact Fp12.mk_ok ha.1 (neg_ok6 ha.2)
theorem v_conj12 {a : Fp12} (ha : a.ok) : (conjF12 a).v = a.v.conj := by rw [conjF12_eq]; exact Fp12.mk_v rfl (v_neg6 ha.2)
def rv12 : V12 := Qd.of rv6
def ri12 : V12 := Qd.of ri6
theorem rv_ri12 : rv12 * ri12 = 1 := by unfold rv12 ri12; rw [← Qd.of_mul, rv_ri6]; rfl
theorem Qd.of_times {K : Type} [CR K] [QP K] (k : K) (x : Qd K) : Qd.of k * x = ⟨k * x.a, k * x.b⟩ := Qd.ext'
  (by rw [Qd.mul_a]; show k * x.a + QP.nr * (0 * x.b) = _; grind)
  (by rw [Qd.mul_b]; show k * x.b + 0 * x.a = _; grind)
theorem whole_ok12 {a : Fp12} (ha : a.ok) : (wholeF12 a).ok := by rw [wholeF12_eq]; exact Fp12.mk_ok (whole_ok6 ha.1) (whole_ok6 ha.2)
theorem v_whole12 {a : Fp12} (ha : a.ok) : (wholeF12 a).v = rv12 * a.v := by
  unfold rv12
  rw [wholeF12_eq, Qd.of_times]
  exact Fp12.mk_v (v_whole6 ha.1) (v_whole6 ha.2)
theorem low_ok12 {a : Fp12} (ha : a.ok) : (lowF12 a).ok := by rw [lowF12_eq]; exact Fp12.mk_ok (low_ok6 ha.1) (low_ok6 ha.2)
theorem v_low12 {a : Fp12} (ha : a.ok) : (lowF12 a).v = ri12 * a.v := by
  unfold ri12
  rw [lowF12_eq, Qd.of_times]
  exact Fp12.mk_v (v_low6 ha.1) (v_low6 ha.2)
theorem mul_scaled2 {K : Type} [CR K] [QP K] (k : K) (x y : Qd K) : Qd.of k * (x * y) = ⟨k * (x.a * y.a) + QP.nr * (k * (x.b * y.b)), k * ((x.a + x.b) * (y.a + y.b)) - (k * (x.a * y.a) + k * (x.b * y.b))⟩ := by
  rw [Qd.of_times]
  exact Qd.ext' (by rw [Qd.mul_a]; grind) (by rw [Qd.mul_b]; grind)
theorem half_v12 {a b : Fp12} (ha : a.ok) (hb : b.ok) : (halfF12 a b).ok ∧ (halfF12 a b).v = ri12 * (a.v * b.v) := by
  have h0 := half_ok6 ha.1 hb.1
  have h1 := half_ok6 ha.2 hb.2
  have s0 := add_ok6 ha.1 ha.2
  have s1 := add_ok6 hb.1 hb.2
  have h2 := half_ok6 s0 s1
  have e : ri12 * (a.v * b.v) = _ := mul_scaled2 ri6 a.v b.v
  rw [halfF12_eq, e]
  refine ⟨Fp12.mk_ok (add_ok6 h0 (up_ok6 h1)) (sub_ok6 h2 (add_ok6 h0 h1)), Fp12.mk_v ?_ ?_⟩
  · rw [v_add6 h0 (up_ok6 h1), v_up6 h1, v_half6 ha.1 hb.1, v_half6 ha.2 hb.2]
    rfl
  · rw [v_sub6 h2 (add_ok6 h0 h1), v_add6 h0 h1, v_half6 s0 s1, v_add6 ha.1 ha.2, v_add6 hb.1 hb.2, v_half6 ha.1 hb.1, v_half6 ha.2 hb.2]
    rfl
theorem half_ok12 {a b : Fp12} (ha : a.ok) (hb : b.ok) : (halfF12 a b).ok := (half_v12 ha hb).1
theorem v_half12 {a b : Fp12} (ha : a.ok) (hb : b.ok) : (halfF12 a b).v = ri12 * (a.v * b.v) := (half_v12 ha hb).2
theorem mul_ok12 {a b : Fp12} (ha : a.ok) (hb : b.ok) : (mulF12 a b).ok := by rw [mulF12_eq]; exact whole_ok12 (half_ok12 ha hb)
theorem v_mul12 {a b : Fp12} (ha : a.ok) (hb : b.ok) : (mulF12 a b).v = a.v * b.v := by
  rw [mulF12_eq, v_whole12 (half_ok12 ha hb), v_half12 ha hb]
  exact whole_half rv_ri12

/-! the inverse -/
section
variable {f0 f1 : Fp6 → Fp6 → Fp6} {f2 f4 : Fp6 → Fp6} {f3 : Fp6 → Fp6 × Int} {a : Fp12}
theorem invF12_no (h : (f3 (f0 (f1 a.c0 a.c0) (f2 (f1 a.c1 a.c1)))).2 = 7) : invF12_G f0 f1 f2 f3 f4 a = (zeroFp12, 7) := by
  unfold invF12_G
  rw [h]
  rfl
theorem invF12_yes (h : (f3 (f0 (f1 a.c0 a.c0) (f2 (f1 a.c1 a.c1)))).2 = 0) : invF12_G f0 f1 f2 f3 f4 a = (⟨f1 a.c0 (f3 (f0 (f1 a.c0 a.c0) (f2 (f1 a.c1 a.c1)))).1, f4 (f1 a.c1 (f3 (f0 (f1 a.c0 a.c0) (f2 (f1 a.c1 a.c1)))).1)⟩, 0) := by
  unfold invF12_G
  rw [h]
  rfl
end
theorem inv12R_G_eq (f0 : Fp6 → Fp6 × Int) (f1 f2 : Fp6 → Fp6 → Fp6) (f3 f4 : Fp6 → Fp6) (a : Fp12) : inv12R_G f0 f1 f2 f3 f4 a = invF12_G f1 f2 f3 f0 f4 a := rfl
theorem norm_v12 {a : Fp12} (ha : a.ok) : (subF6 (mulF6 a.c0 a.c0) (upF6 (mulF6 a.c1 a.c1))).ok ∧ (subF6 (mulF6 a.c0 a.c0) (upF6 (mulF6 a.c1 a.c1))).v = a.v.norm := by
  have m0 := mul_ok6 ha.1 ha.1
  have m1 := mul_ok6 ha.2 ha.2
  refine ⟨sub_ok6 m0 (up_ok6 m1), ?_⟩
  rw [v_sub6 m0 (up_ok6 m1), v_up6 m1, v_mul6 ha.1 ha.1, v_mul6 ha.2 ha.2]
  rfl
theorem Qd.norm_zero {K : Type} [CR K] [QP K] : (0 : Qd K).norm = 0 := by
  unfold Qd.norm
  rw [Qd.zero_a, Qd.zero_b]
  grind
theorem Qd.inv_a {K : Type} [Fld K] [QF K] (x : Qd K) : (Fld.inv x).a = x.a * Fld.inv x.norm := rfl
theorem Qd.inv_b {K : Type} [Fld K] [QF K] (x : Qd K) : (Fld.inv x).b = -(x.b * Fld.inv x.norm) := rfl
theorem inv_v12 {a : Fp12} (ha : a.ok) : (a.v = 0 → invF12 a = (zeroFp12, 7)) ∧ (a.v ≠ 0 → (invF12 a).2 = 0 ∧ (invF12 a).1.ok ∧ (invF12 a).1.v = Fld.inv a.v) := by
  obtain ⟨d1, d2⟩ := norm_v12 ha
  obtain ⟨h1, h2⟩ := inv_v6 d1
  rw [d2] at h1 h2
  unfold invF12
  constructor
  · intro h
    exact invF12_no (congrArg Prod.snd (h1 (by rw [h]; exact Qd.norm_zero)))
  · intro h
    obtain ⟨i1, i2, i3⟩ := h2 (Qd.norm_ne h)
    rw [invF12_yes i1]
    simp only []
    refine ⟨trivial, Fp12.mk_ok (mul_ok6 ha.1 i2) (neg_ok6 (mul_ok6 ha.2 i2)), ?_⟩
    refine Fp12.mk_v ?_ ?_
    · rw [v_mul6 ha.1 i2, i3, Qd.inv_a, Fp12.v_a]
    · rw [v_neg6 (mul_ok6 ha.2 i2), v_mul6 ha.2 i2, i3, Qd.inv_b, Fp12.v_b]

/-! powers -/
theorem one_mul' {R : Type} [CR R] (x : R) : 1 * x = x := by grind
theorem whole_low {R : Type} [CR R] {r i x : R} (h : r * i = 1) : i * (r * x) = x := by grind
theorem raised_v {a : Fp12} (ha : a.ok) (e : List UInt64) : (raisedF a e).ok ∧ ri12 * (raisedF a e).v = (ri12 * a.v) ^ eLow e (64 * e.length) := by
  have h := rv_ri12
  unfold raisedF
  rw [oneF12_eq]
  obtain ⟨h1, h2⟩ := powG_v (mF := halfF12) Fp12.ok (fun x => ri12 * x.v) half_ok12 (fun {a b} ha hb => by
    show ri12 * (halfF12 a b).v = ri12 * a.v * (ri12 * b.v)
    rw [v_half12 ha hb]
    generalize ri12 = i at *
    grind) ha e (64 * e.length) (whole_ok12 one_ok12)
  refine ⟨h1, ?_⟩
  rw [h2, v_whole12 one_ok12, v_one12, show ri12 * (rv12 * 1) = 1 by generalize ri12 = i at *; generalize rv12 = r at *; grind, one_pow']
  exact one_mul' _
theorem pow_v12 {a : Fp12} (ha : a.ok) (e : List UInt64) : (powF12 a e).ok ∧ (powF12 a e).v = a.v ^ eLow e (64 * e.length) := by
  unfold powF12
  obtain ⟨h1, h2⟩ := raised_v (whole_ok12 ha) e
  refine ⟨low_ok12 h1, ?_⟩
  rw [v_low12 h1, h2, v_whole12 ha, whole_low rv_ri12]

/-! the document's sixes -/
theorem add12R_G_eq (f : Fp6 → Fp6 → Fp6) (a b : Fp12) : add12R_G f a b = ⟨f a.c0 b.c0, f a.c1 b.c1⟩ := rfl
theorem sub12R_G_eq (f : Fp6 → Fp6 → Fp6) (a b : Fp12) : sub12R_G f a b = ⟨f a.c0 b.c0, f a.c1 b.c1⟩ := rfl
theorem conj12R_G_eq (f : Fp6 → Fp6) (a : Fp12) : conj12R_G f a = ⟨a.c0, f a.c1⟩ := rfl
theorem one12R_G_eq (x : Fp2) : one12R_G x = ⟨⟨x, zeroFp2, zeroFp2⟩, zeroFp6⟩ := rfl
theorem mul12R_G_eq (f0 f1 : Fp6 → Fp6 → Fp6) (f2 : Fp6 → Fp6) (a b : Fp12) : mul12R_G f0 f1 f2 a b = ⟨f0 (f1 a.c0 b.c0) (f2 (f1 a.c1 b.c1)), f0 (f1 a.c0 b.c1) (f1 a.c1 b.c0)⟩ := rfl
theorem add12R_eq (a b : Fp12) : add12R a b = addF12 a b := by
  unfold add12R
  rw [add12R_G_eq, add6R_eq, add6R_eq, addF12_eq]
theorem sub12R_eq (a b : Fp12) : sub12R a b = subF12 a b := by
  unfold sub12R
  rw [sub12R_G_eq, sub6R_eq, sub6R_eq, subF12_eq]
theorem conj12R_eq (a : Fp12) : conj12R a = conjF12 a := by
  unfold conj12R
  rw [conj12R_G_eq, neg6R_eq, conjF12_eq]
theorem one12R_eq : one12R = oneFp12 := by
  unfold one12R
  rw [one12R_G_eq, one2R_eq]
  rfl
theorem mul12R_eq {a b : Fp12} (ha : a.ok) (hb : b.ok) : mul12R a b = mulF12 a b := by
  have m00 := mul_ok6 ha.1 hb.1
  have m11 := mul_ok6 ha.2 hb.2
  have m01 := mul_ok6 ha.1 hb.2
  have m10 := mul_ok6 ha.2 hb.1
  unfold mul12R
  rw [mul12R_G_eq, mul6R_eq ha.1 hb.1, mul6R_eq ha.2 hb.2, mul6R_eq ha.1 hb.2, mul6R_eq ha.2 hb.1, up6R_eq m11, add6R_eq, add6R_eq]
  refine Fp12.v_inj (Fp12.mk_ok (add_ok6 m00 (up_ok6 m11)) (add_ok6 m01 m10)) (mul_ok12 ha hb) ?_
  rw [v_mul12 ha hb]
  refine Fp12.mk_v ?_ ?_
  · rw [v_add6 m00 (up_ok6 m11), v_up6 m11, v_mul6 ha.1 hb.1, v_mul6 ha.2 hb.2]
    rfl
  · rw [v_add6 m01 m10, v_mul6 ha.1 hb.2, v_mul6 ha.2 hb.1]
    rfl
theorem inv12R_eq {a : Fp12} (ha : a.ok) : inv12R a = invF12 a := by
  obtain ⟨d1, d2⟩ := norm_v12 ha
  obtain ⟨h1, h2⟩ := inv_v6 d1
  have m1 := mul_ok6 ha.2 ha.2
  have ed : sub6R (mul6R a.c0 a.c0) (up6R (mul6R a.c1 a.c1)) = subF6 (mulF6 a.c0 a.c0) (upF6 (mulF6 a.c1 a.c1)) := by rw [sub6R_eq, mul6R_eq ha.1 ha.1, mul6R_eq ha.2 ha.2, up6R_eq m1]
  have ei := inv6R_eq d1
  unfold inv12R invF12
  rw [inv12R_G_eq]
  by_cases h : (subF6 (mulF6 a.c0 a.c0) (upF6 (mulF6 a.c1 a.c1))).v = 0
  · have k := congrArg Prod.snd (h1 h)
    rw [invF12_no (by rw [ed, ei]; exact k), invF12_no k]
  · obtain ⟨i1, i2, i3⟩ := h2 h
    rw [invF12_yes (by rw [ed, ei]; exact i1), invF12_yes i1, ed, ei, mul6R_eq ha.1 i2, mul6R_eq ha.2 i2, neg6R_eq]
theorem pow12R_eq {a : Fp12} (ha : a.ok) (e : List UInt64) : pow12R a e = powF12 a e := by
  have h0 : one12R.ok := by rw [one12R_eq]; exact one_ok12
  obtain ⟨h1, h2⟩ := powG_v (mF := mul12R) Fp12.ok Fp12.v (fun {a b} ha hb => by rw [mul12R_eq ha hb]; exact mul_ok12 ha hb) (fun {a b} ha hb => by rw [mul12R_eq ha hb]; exact v_mul12 ha hb) ha e (64 * e.length) h0
  obtain ⟨k1, k2⟩ := pow_v12 ha e
  refine Fp12.v_inj h1 k1 ?_
  rw [k2]
  unfold pow12R
  rw [h2, one12R_eq, v_one12, one_pow']
  exact one_mul' _

end Go.Proofs.Ytehhcpopfgieeaa
