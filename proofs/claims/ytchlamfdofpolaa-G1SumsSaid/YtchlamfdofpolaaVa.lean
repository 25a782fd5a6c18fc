/- Pairs of numbers by value: what fp2 computes, in the field V2. -/
import Derived.Test.YtchlamfdofpolaaPj
import Derived.Test.YtchlamfdofpolaaMB
import Derived.Test.YtchlamfdofpolaaLc
set_option linter.unusedSimpArgs false
set_option linter.unusedVariables false
namespace Go.Proofs.Ytchlamfdofpolaa
open Go.RowKit

/-- Montgomery's number, and what it times itself is 1. -/
def rv : V1 := V1.of rN
def ri : V1 := Fld.inv rv
theorem rv_ne : rv ≠ 0 := fun e => by
  have h := congrArg V1.nat e
  rw [V1.nat_zero] at h
  exact absurd h (by decide +kernel)
theorem rv_ri : rv * ri = 1 := mul_inv' rv_ne
theorem half_ok' {a b : Fp} (ha : a.ok) : (halfF a b).ok := (halfF_nat ha).1
theorem v_half {a b : Fp} (ha : a.ok) (hb : b.ok) : (halfF a b).v = ri * (a.v * b.v) := by
  have h : (halfF a b).v * rv = a.v * b.v := V1.ext (by
    rw [V1.nat_mul, V1.nat_mul, Fp.v_nat (half_ok' ha), Fp.v_nat ha, Fp.v_nat hb]
    show ((halfF a b).nat * (rN % pN)) % pN = _
    rw [Nat.mul_mod_mod, (halfF_nat ha).2])
  have h2 := rv_ri
  grind
theorem whole_ok' {a : Fp} (ha : a.ok) : (wholeF a).ok := by
  unfold Fp.ok
  rw [wholeF_nat ha]
  exact Nat.mod_lt _ pN_pos
theorem v_whole {a : Fp} (ha : a.ok) : (wholeF a).v = rv * a.v := V1.ext (by
  rw [Fp.v_nat (whole_ok' ha), wholeF_nat ha, V1.nat_mul, Fp.v_nat ha]
  show _ = (rN % pN * a.nat) % pN
  rw [Nat.mod_mul_mod, Nat.mul_comm])
theorem low_ok' {a : Fp} (ha : a.ok) : (lowF a).ok := (lowF_nat ha).1
theorem v_low {a : Fp} (ha : a.ok) : (lowF a).v = ri * a.v := by
  have h : (lowF a).v * rv = a.v := V1.ext (by
    rw [V1.nat_mul, Fp.v_nat (low_ok' ha), Fp.v_nat ha]
    show ((lowF a).nat * (rN % pN)) % pN = _
    rw [Nat.mul_mod_mod, (lowF_nat ha).2])
  have h2 := rv_ri
  grind
theorem inv_v {a : Fp} (ha : a.ok) : (a.v = 0 → (invF a).2 = 7) ∧ (a.v ≠ 0 → (invF a).2 = 0 ∧ (invF a).1.ok ∧ (invF a).1.v = Fld.inv a.v) := by
  obtain ⟨h1, h2⟩ := inv_law ha
  constructor
  · intro h
    refine h1 ?_
    have := congrArg V1.nat h
    rwa [Fp.v_nat ha, V1.nat_zero] at this
  · intro h
    have h0 := V1.ne_zero h
    rw [Fp.v_nat ha] at h0
    obtain ⟨i1, i2, i3⟩ := h2 h0
    refine ⟨i1, i2, inv_unique' (V1.ext ?_)⟩
    rw [V1.nat_mul, Fp.v_nat ha, Fp.v_nat i2, i3, V1.nat_one]

/-- Both numbers are below the modulus. -/
def Fp2.ok (a : Fp2) : Prop := a.c0.ok ∧ a.c1.ok
def Fp2.v (a : Fp2) : V2 := ⟨a.c0.v, a.c1.v⟩
theorem Fp2.v_a (a : Fp2) : a.v.a = a.c0.v := rfl
theorem Fp2.v_b (a : Fp2) : a.v.b = a.c1.v := rfl
theorem Fp2.v_inj {a b : Fp2} (ha : a.ok) (hb : b.ok) (h : a.v = b.v) : a = b := by
  have h1 : a.c0 = b.c0 := Fp.v_inj ha.1 hb.1 (congrArg Qd.a h)
  have h2 : a.c1 = b.c1 := Fp.v_inj ha.2 hb.2 (congrArg Qd.b h)
  cases a; cases b
  simp only [] at h1 h2
  subst h1 h2
  rfl
theorem fp2Eq_v {a b : Fp2} (ha : a.ok) (hb : b.ok) : fp2Eq a b = true ↔ a.v = b.v := ⟨fun h => by rw [(fp2Eq_iff a b).1 h], fun h => (fp2Eq_iff a b).2 (Fp2.v_inj ha hb h)⟩
theorem fp2Eq_vF {a b : Fp2} (ha : a.ok) (hb : b.ok) : fp2Eq a b = false ↔ a.v ≠ b.v := by
  rw [← Bool.not_eq_true, fp2Eq_v ha hb]

theorem addF2_eq (a b : Fp2) : addF2 a b = ⟨addF a.c0 b.c0, addF a.c1 b.c1⟩ := by unfold addF2 addF2_G; rfl
theorem subF2_eq (a b : Fp2) : subF2 a b = ⟨subF a.c0 b.c0, subF a.c1 b.c1⟩ := by unfold subF2 subF2_G; rfl
theorem negF2_eq (a : Fp2) : negF2 a = ⟨negF a.c0, negF a.c1⟩ := by unfold negF2 negF2_G; rfl
theorem conjF2_eq (a : Fp2) : conjF2 a = ⟨a.c0, negF a.c1⟩ := by unfold conjF2 conjF2_G; rfl
theorem halfF2_eq (a b : Fp2) : halfF2 a b = ⟨subF (halfF a.c0 b.c0) (halfF a.c1 b.c1), subF (halfF (addF a.c0 a.c1) (addF b.c0 b.c1)) (addF (halfF a.c0 b.c0) (halfF a.c1 b.c1))⟩ := by unfold halfF2 halfF2_G; rfl
theorem wholeF2_eq (a : Fp2) : wholeF2 a = ⟨wholeF a.c0, wholeF a.c1⟩ := by unfold wholeF2 wholeF2_G; rfl
theorem lowF2_eq (a : Fp2) : lowF2 a = ⟨lowF a.c0, lowF a.c1⟩ := by unfold lowF2 lowF2_G; rfl
theorem mulF2_eq (a b : Fp2) : mulF2 a b = wholeF2 (halfF2 a b) := by unfold mulF2 mulF2_G; rfl
theorem normF2_G_eq (f g : Fp → Fp → Fp) (a : Fp2) : normF2_G f g a = f (g a.c0 a.c0) (g a.c1 a.c1) := rfl
theorem normF2_eq (a : Fp2) : normF2 a = addF (mulF a.c0 a.c0) (mulF a.c1 a.c1) := by
  unfold normF2
  exact normF2_G_eq addF mulF a
theorem scaledF2_eq (a : Fp2) (k : Fp) : scaledF2 a k = ⟨mulF a.c0 k, mulF a.c1 k⟩ := by unfold scaledF2 scaledF2_G; rfl
theorem Fp2.mk_ok {a b : Fp} (ha : a.ok) (hb : b.ok) : (⟨a, b⟩ : Fp2).ok := ⟨ha, hb⟩
theorem Fp2.mk_v {a b : Fp} {x : V2} (ha : a.v = x.a) (hb : b.v = x.b) : (⟨a, b⟩ : Fp2).v = x := Qd.ext' ha hb
theorem may2_iff (a : Fp2) : mayF2 a = true ↔ a.ok := by
  unfold mayF2 mayF2_G Fp2.ok
  rw [← mayF_ok, ← mayF_ok]
  cases mayF a.c0 <;> simp
theorem may2_G {f g : Fp → Bool} (h : ∀ z, f z = g z) (a : Fp2) : mayF2_G f a = may2R_G g a := by
  unfold mayF2_G may2R_G
  rw [h, h]
  cases g a.c0 <;> rfl
theorem may2_eq (a : Fp2) : mayF2 a = may2R a := by
  have h : ∀ z : Fp, mayF z = mayPF z := fun z => by rw [mayF_nat, mayPF_nat]
  exact may2_G h a
theorem may2R_iff (a : Fp2) : may2R a = true ↔ a.ok := by rw [← may2_eq]; exact may2_iff a

theorem zero_ok2 : zeroFp2.ok := ⟨zero_ok', zero_ok'⟩
theorem v_zero2 : zeroFp2.v = 0 := Qd.ext' v_zero v_zero
theorem one_ok2 : oneFp2.ok := ⟨one_ok', zero_ok'⟩
theorem v_one2 : oneFp2.v = 1 := Qd.ext' v_one v_zero
theorem v_eq_zero2 {a : Fp2} (ha : a.ok) : a.v = 0 ↔ a = zeroFp2 := ⟨fun h => Fp2.v_inj ha zero_ok2 (by rw [h, v_zero2]), fun h => by rw [h, v_zero2]⟩
theorem add_ok2 {a b : Fp2} (ha : a.ok) (hb : b.ok) : (addF2 a b).ok := by rw [addF2_eq]; exact Fp2.mk_ok (add_ok' ha.1 hb.1) (add_ok' ha.2 hb.2)
theorem v_add2 {a b : Fp2} (ha : a.ok) (hb : b.ok) : (addF2 a b).v = a.v + b.v := by rw [addF2_eq]; exact Fp2.mk_v (v_add ha.1 hb.1) (v_add ha.2 hb.2)
theorem sub_ok2 {a b : Fp2} (ha : a.ok) (hb : b.ok) : (subF2 a b).ok := by rw [subF2_eq]; exact Fp2.mk_ok (sub_ok' ha.1 hb.1) (sub_ok' ha.2 hb.2)
theorem v_sub2 {a b : Fp2} (ha : a.ok) (hb : b.ok) : (subF2 a b).v = a.v - b.v := by rw [subF2_eq]; exact Fp2.mk_v (v_sub ha.1 hb.1) (v_sub ha.2 hb.2)
theorem neg_ok2 {a : Fp2} (ha : a.ok) : (negF2 a).ok := by rw [negF2_eq]; exact Fp2.mk_ok (neg_ok' ha.1) (neg_ok' ha.2)
theorem v_neg2 {a : Fp2} (ha : a.ok) : (negF2 a).v = -a.v := by rw [negF2_eq]; exact Fp2.mk_v (v_neg ha.1) (v_neg ha.2)
theorem conj_ok2 {a : Fp2} (ha : a.ok) : (conjF2 a).ok := by rw [conjF2_eq]; exact Fp2.mk_ok (ha.1) (neg_ok' ha.2)
theorem v_conj2 {a : Fp2} (ha : a.ok) : (conjF2 a).v = a.v.conj := by rw [conjF2_eq]; exact Fp2.mk_v rfl (v_neg ha.2)
theorem V2.mul_a (x y : V2) : (x * y).a = x.a * y.a - x.b * y.b := by rw [Qd.mul_a, V1.nr_eq]; grind
theorem V2.mul_b (x y : V2) : (x * y).b = x.a * y.b + x.b * y.a := Qd.mul_b x y
theorem xi_a : xi.a = 1 := rfl
theorem xi_b : xi.b = 1 := rfl
def rv2 : V2 := Qd.of rv
def ri2 : V2 := Qd.of ri
theorem rv_ri2 : rv2 * ri2 = 1 := by unfold rv2 ri2; rw [← Qd.of_mul, rv_ri]; rfl
theorem half_ok2 {a b : Fp2} (ha : a.ok) (hb : b.ok) : (halfF2 a b).ok := by rw [halfF2_eq]; exact Fp2.mk_ok (sub_ok' (half_ok' ha.1) (half_ok' ha.2)) (sub_ok' (half_ok' (add_ok' ha.1 ha.2)) (add_ok' (half_ok' ha.1) (half_ok' ha.2)))
theorem Qd.of_a {K : Type} [CR K] (x : K) : (Qd.of x).a = x := rfl
theorem Qd.of_b {K : Type} [CR K] (x : K) : (Qd.of x).b = 0 := rfl
theorem v_half2 {a b : Fp2} (ha : a.ok) (hb : b.ok) : (halfF2 a b).v = ri2 * (a.v * b.v) := by
  rw [halfF2_eq]
  exact Fp2.mk_v (by
    rw [v_sub (half_ok' ha.1) (half_ok' ha.2), v_half ha.1 hb.1, v_half ha.2 hb.2, V2.mul_a, V2.mul_a, V2.mul_b]
    rw [show ri2.a = ri from rfl, show ri2.b = 0 from rfl, Fp2.v_a, Fp2.v_b, Fp2.v_a, Fp2.v_b]
    grind)
    (by
    rw [v_sub (half_ok' (add_ok' ha.1 ha.2)) (add_ok' (half_ok' ha.1) (half_ok' ha.2)), v_half (add_ok' ha.1 ha.2) (add_ok' hb.1 hb.2), v_add (half_ok' ha.1) (half_ok' ha.2), v_half ha.1 hb.1, v_half ha.2 hb.2, v_add ha.1 ha.2, v_add hb.1 hb.2, V2.mul_b, V2.mul_a, V2.mul_b]
    rw [show ri2.a = ri from rfl, show ri2.b = 0 from rfl, Fp2.v_a, Fp2.v_b, Fp2.v_a, Fp2.v_b]
    grind)
theorem whole_ok2 {a : Fp2} (ha : a.ok) : (wholeF2 a).ok := by rw [wholeF2_eq]; exact Fp2.mk_ok (whole_ok' ha.1) (whole_ok' ha.2)
theorem of_mul_a (k : V1) (x : V2) : (Qd.of k * x).a = k * x.a := by rw [V2.mul_a]; show k * x.a - 0 * x.b = _; grind
theorem of_mul_b (k : V1) (x : V2) : (Qd.of k * x).b = k * x.b := by rw [V2.mul_b]; show k * x.b + 0 * x.a = _; grind
theorem v_whole2 {a : Fp2} (ha : a.ok) : (wholeF2 a).v = rv2 * a.v := by rw [wholeF2_eq]; exact Fp2.mk_v (by unfold rv2; rw [of_mul_a]; exact v_whole ha.1) (by unfold rv2; rw [of_mul_b]; exact v_whole ha.2)
theorem low_ok2 {a : Fp2} (ha : a.ok) : (lowF2 a).ok := by rw [lowF2_eq]; exact Fp2.mk_ok (low_ok' ha.1) (low_ok' ha.2)
theorem v_low2 {a : Fp2} (ha : a.ok) : (lowF2 a).v = ri2 * a.v := by rw [lowF2_eq]; exact Fp2.mk_v (by unfold ri2; rw [of_mul_a]; exact v_low ha.1) (by unfold ri2; rw [of_mul_b]; exact v_low ha.2)
theorem mul_ok2 {a b : Fp2} (ha : a.ok) (hb : b.ok) : (mulF2 a b).ok := by rw [mulF2_eq]; exact whole_ok2 (half_ok2 ha hb)
theorem v_mul2 {a b : Fp2} (ha : a.ok) (hb : b.ok) : (mulF2 a b).v = a.v * b.v := by
  rw [mulF2_eq, v_whole2 (half_ok2 ha hb), v_half2 ha hb]
  have := rv_ri2
  grind
theorem norm_ok2 {a : Fp2} (ha : a.ok) : (normF2 a).ok := by rw [normF2_eq]; exact add_ok' (mul_ok' ha.1) (mul_ok' ha.2)
theorem V2.norm_eq (x : V2) : x.norm = x.a * x.a + x.b * x.b := by unfold Qd.norm; rw [V1.nr_eq]; grind
theorem v_norm2 {a : Fp2} (ha : a.ok) : (normF2 a).v = a.v.norm := by
  rw [V2.norm_eq, normF2_eq, v_add (mul_ok' ha.1) (mul_ok' ha.2), v_mul ha.1 ha.1, v_mul ha.2 ha.2]
  rfl
theorem scaled_ok2 {a : Fp2} {k : Fp} (ha : a.ok) (hk : k.ok) : (scaledF2 a k).ok := by rw [scaledF2_eq]; exact Fp2.mk_ok (mul_ok' ha.1) (mul_ok' ha.2)
theorem v_scaled2 {a : Fp2} {k : Fp} (ha : a.ok) (hk : k.ok) : (scaledF2 a k).v = Qd.of k.v * a.v := by
  rw [scaledF2_eq]
  exact Fp2.mk_v (by rw [of_mul_a, v_mul ha.1 hk]; exact CR.mul_comm a.c0.v k.v)
    (by rw [of_mul_b, v_mul ha.2 hk]; exact CR.mul_comm a.c1.v k.v)
/-- The inverse, by norm and conj. -/
theorem V2.inv_eq {x : V2} (h : x ≠ 0) : Fld.inv x = Qd.of (Fld.inv x.norm) * x.conj := by
  refine (inv_unique' ?_).symm
  have h1 := Qd.mul_conj x
  have h2 : Qd.of x.norm * Qd.of (Fld.inv x.norm) = (1 : V2) := by rw [← Qd.of_mul, mul_inv' (Qd.norm_ne h)]; rfl
  grind
theorem V2.norm_zero : (0 : V2).norm = 0 := by rw [V2.norm_eq]; show (0 : V1) * 0 + 0 * 0 = 0; grind
theorem invF2_no {f0 : Fp → Fp × Int} {f1 : Fp2 → Fp} (f2 : Fp2 → Fp → Fp2) (f3 : Fp2 → Fp2) {a : Fp2} (h : (f0 (f1 a)).2 = 7) : invF2_G f0 f1 f2 f3 a = (zeroFp2, 7) := by
  unfold invF2_G
  rw [h]
  rfl
theorem invF2_yes {f0 : Fp → Fp × Int} {f1 : Fp2 → Fp} (f2 : Fp2 → Fp → Fp2) (f3 : Fp2 → Fp2) {a : Fp2} (h : (f0 (f1 a)).2 = 0) : invF2_G f0 f1 f2 f3 a = (f2 (f3 a) (f0 (f1 a)).1, 0) := by
  unfold invF2_G
  rw [h]
  rfl
theorem inv_v2 {a : Fp2} (ha : a.ok) : (a.v = 0 → invF2 a = (zeroFp2, 7)) ∧ (a.v ≠ 0 → (invF2 a).2 = 0 ∧ (invF2 a).1.ok ∧ (invF2 a).1.v = Fld.inv a.v) := by
  obtain ⟨h1, h2⟩ := inv_v (norm_ok2 ha)
  rw [v_norm2 ha] at h1 h2
  unfold invF2
  constructor
  · intro h
    exact invF2_no _ _ (h1 (by rw [h]; exact V2.norm_zero))
  · intro h
    obtain ⟨i1, i2, i3⟩ := h2 (Qd.norm_ne h)
    rw [invF2_yes _ _ i1]
    simp only []
    refine ⟨trivial, scaled_ok2 (conj_ok2 ha) i2, ?_⟩
    rw [v_scaled2 (conj_ok2 ha) i2, i3, v_conj2 ha, V2.inv_eq h]

/-! powers -/
theorem powG_v {α R : Type} [CR R] (ok : α → Prop) (v : α → R) {mF : α → α → α} (h1 : ∀ {a b}, ok a → ok b → ok (mF a b)) (h2 : ∀ {a b}, ok a → ok b → v (mF a b) = v a * v b) {a : α} (ha : ok a) (e : List UInt64) : ∀ (n : Nat) {o : α}, ok o →
    ok (powG mF a e n o) ∧ v (powG mF a e n o) = v o ^ 2 ^ n * v a ^ eLow e n
  | 0, o, ho => ⟨ho, by
    show v o = v o ^ 2 ^ 0 * v a ^ eLow e 0
    rw [show (2 ^ 0 : Nat) = 1 from rfl, pow_one', show eLow e 0 = 0 from rfl, pow_zero']
    grind⟩
  | n + 1, o, ho => by
    simp only [powG]
    have e2 : (2 : Nat) ^ (n + 1) = 2 ^ n + 2 ^ n := by rw [Nat.pow_succ]; omega
    cases hb : bitAt e n with
    | true =>
      simp only []
      obtain ⟨i1, i2⟩ := powG_v ok v h1 h2 ha e n (h1 (h1 ho ho) ha)
      refine ⟨i1, ?_⟩
      rw [i2, h2 (h1 ho ho) ha, h2 ho ho]
      simp only [eLow, hb, Bool.toNat_true, Nat.one_mul]
      rw [mul_pow', mul_pow', e2, pow_add', pow_add']
      grind
    | false =>
      simp only []
      obtain ⟨i1, i2⟩ := powG_v ok v h1 h2 ha e n (h1 ho ho)
      refine ⟨i1, ?_⟩
      rw [i2, h2 ho ho]
      simp only [eLow, hb, Bool.toNat_false, Nat.zero_mul, Nat.add_zero]
      rw [mul_pow', e2, pow_add']
theorem pw2At_eq (x : Fp2) (e : List UInt64) : ∀ (n : Nat) (o : Fp2), pw2At x e n o = lowF2 (powG halfF2 x e n o)
  | 0, o => rfl
  | n + 1, o => by
    simp only [pw2At, powG]
    exact pw2At_eq x e n _
theorem pow_v2 {a : Fp2} (ha : a.ok) (e : List UInt64) : (powF2 a e).ok ∧ (powF2 a e).v = a.v ^ eLow e (64 * e.length) := by
  unfold powF2
  rw [pw2At_eq]
  have h := rv_ri2
  obtain ⟨h1, h2⟩ := powG_v (mF := halfF2) Fp2.ok (fun x => ri2 * x.v) half_ok2 (fun {a b} ha hb => by
    show ri2 * (halfF2 a b).v = ri2 * a.v * (ri2 * b.v)
    rw [v_half2 ha hb]
    grind) (whole_ok2 ha) e (64 * e.length) (whole_ok2 one_ok2)
  refine ⟨low_ok2 h1, ?_⟩
  rw [v_low2 h1]
  rw [h2, v_whole2 one_ok2, v_whole2 ha, v_one2, show ri2 * (rv2 * 1) = 1 by grind, one_pow', show ri2 * (rv2 * a.v) = a.v by grind]
  grind

end Go.Proofs.Ytchlamfdofpolaa
