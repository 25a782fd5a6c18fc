/- Texts of the proof, joined. -/
import Derived.Test.YtchlamfdofpolaaZJl5
set_option linter.unusedSimpArgs false
set_option linter.unusedVariables false
set_option linter.unusedSectionVars false
namespace Go.Proofs.Ytchlamfdofpolaa
section
variable {R : Type} [CR R]
theorem CR.nat_add (m : Nat) : ∀ n : Nat, (CR.nat (m + n) : R) = CR.nat m + CR.nat n
  | 0 => by show CR.nat m = CR.nat m + CR.z; rw [CR.add_zero]
  | n + 1 => by
    rw [← Nat.add_assoc, CR.nat_succ, CR.nat_add m n, CR.nat_succ, CR.add_assoc]
theorem CR.nat_mul (m : Nat) : ∀ n : Nat, (CR.nat (m * n) : R) = CR.nat m * CR.nat n
  | 0 => by
    show CR.z = CR.nat m * CR.z
    rw [CR.mul_zero]
  | n + 1 => by
    rw [Nat.mul_succ, CR.nat_add, CR.nat_mul m n, CR.nat_succ, CR.dist, CR.mul_one]
end
section
variable {K : Type} [Fld K]
end
theorem V1.nat_nat : ∀ n : Nat, V1.nat (CR.nat n) = n % pN
  | 0 => V1.nat_zero
  | n + 1 => by
    rw [CR.nat_succ]
    show V1.nat (CR.nat n + 1) = _
    rw [V1.nat_add, V1.nat_nat n, V1.nat_one, Nat.mod_add_mod]
theorem V1.two_nat : V1.nat (2 : V1) = 2 := by
  show V1.nat (CR.nat 2) = 2
  rw [V1.nat_nat]
  exact Nat.mod_eq_of_lt two_lt
instance : QF V1 where
  nr := -1
  no := fun x h => by
    have h1 : (x * x).chi = x.chi * x.chi := chi_mul x x
    rw [h, chi_neg_one] at h1
    have hx : x ≠ 0 := fun e => by
      rw [e] at h
      have := one_ne' (K := V1)
      grind
    rw [chi_sq hx] at h1
    exact one_ne_neg h1.symm
abbrev V2 : Type := Qd V1
theorem V1.nr_eq : (QP.nr : V1) = -1 := rfl
def xi : V2 := ⟨1, 1⟩
theorem xi_norm : xi.norm = 2 := by
  unfold Qd.norm xi
  rw [V1.nr_eq]
  show (1 : V1) * 1 - -1 * (1 * 1) = 2
  grind
theorem two_ne : (2 : V1) ≠ 0 := fun h => by
  have h1 := congrArg V1.nat h
  rw [V1.two_nat, V1.nat_zero] at h1
  exact absurd h1 (by decide)
theorem third : (pN - 1) / 3 * 3 = pN - 1 := by decide +kernel
theorem two_third : ((2 : V1) ^ ((pN - 1) / 3)) ≠ 1 := fun h => by
  have h1 := congrArg V1.nat h
  rw [V1.nat_pow, V1.two_nat, V1.nat_one, ← mpow_eq pN 381 2 _ (by decide +kernel)] at h1
  exact absurd h1 (by decide +kernel)
theorem two_half : (2 : V1).chi ≠ 1 := fun h => by
  have h1 := congrArg V1.nat h
  unfold V1.chi at h1
  rw [V1.nat_pow, V1.two_nat, V1.nat_one, ← mpow_eq pN 381 2 _ (by decide +kernel)] at h1
  exact absurd h1 (by decide +kernel)
theorem CR_zero {R : Type} [CR R] (a : R) : a * 0 = 0 := CR.mul_zero a
instance : CF V2 where
  cr := xi
  no := fun x h => by
    have h1 : x.norm * x.norm * x.norm = 2 := by rw [← Qd.norm_mul, ← Qd.norm_mul, h, xi_norm]
    have hx : x.norm ≠ 0 := fun e => by
      exact two_ne (by rw [← h1, e, CR_zero])
    apply two_third
    have e : (2 : V1) = x.norm ^ 3 := by rw [← h1]; grind
    rw [e, ← pow_mul', Nat.mul_comm, third]
    exact V1.fermat hx
abbrev V6 : Type := Cb V2
theorem V2.cr_eq : (CP.cr : V2) = xi := rfl
def vv : V6 := ⟨0, 1, 0⟩
theorem vv_norm : vv.norm = xi := by
  unfold Cb.norm vv
  rw [V2.cr_eq]
  show (0 : V2) * (0 * 0 - xi * (1 * 0)) + xi * (0 * (xi * (0 * 0) - 0 * 1) + 1 * (1 * 1 - 0 * 0)) = xi
  generalize xi = x
  grind
instance : QF V6 where
  nr := vv
  no := fun x h => by
    have h1 : x.norm * x.norm = xi := by rw [← Cb.norm_mul, h, vv_norm]
    have h2 : x.norm.norm * x.norm.norm = 2 := by rw [← Qd.norm_mul, h1, xi_norm]
    have hx : x.norm.norm ≠ 0 := fun e => by
      exact two_ne (by rw [← h2, e, CR_zero])
    apply two_half
    rw [← h2, chi_mul, chi_sq hx]
def uu : V2 := ⟨0, 1⟩
theorem V2.split (x : V2) : x = Qd.of x.a + Qd.of x.b * uu := Qd.ext' (by rw [Qd.add_a, Qd.mul_a]; show x.a = x.a + (x.b * 0 + QP.nr * (0 * 1)); grind) (by rw [Qd.add_b, Qd.mul_b]; show x.b = 0 + (x.b * 1 + 0 * 0); grind)
end Go.Proofs.Ytchlamfdofpolaa

set_option linter.unusedSimpArgs false
set_option linter.unusedVariables false
namespace Go.Proofs.Ytchlamfdofpolaa
open Go.RowKit
def rv : V1 := V1.of rN
def ri : V1 := Fld.inv rv
theorem rv_ne : rv ≠ 0 := fun e => by
  have h := congrArg V1.nat e
  rw [V1.nat_zero] at h
  exact absurd h (by decide +kernel)
theorem rv_ri : rv * ri = 1 := mul_inv' rv_ne
theorem half_ok' {a b : Fp} (ha : a.ok) : (halfF a b).ok := (halfF_nat ha).1
theorem v_half {a b : Fp} (ha : a.ok) (hb : b.ok) : (halfF a b).v = ri * (a.v * b.v) := by
  have h : (halfF a b).v * rv = a.v * b.v := V1.ext (by
    rw [V1.nat_mul, V1.nat_mul, Fp.v_nat (half_ok' ha), Fp.v_nat ha, Fp.v_nat hb]
    show ((halfF a b).nat * (rN % pN)) % pN = _
    rw [Nat.mul_mod_mod, (halfF_nat ha).2])
  have h2 := rv_ri
  grind
theorem whole_ok' {a : Fp} (ha : a.ok) : (wholeF a).ok := by
  unfold Fp.ok
  rw [wholeF_nat ha]
  exact Nat.mod_lt _ pN_pos
theorem v_whole {a : Fp} (ha : a.ok) : (wholeF a).v = rv * a.v := V1.ext (by
  rw [Fp.v_nat (whole_ok' ha), wholeF_nat ha, V1.nat_mul, Fp.v_nat ha]
  show _ = (rN % pN * a.nat) % pN
  rw [Nat.mod_mul_mod, Nat.mul_comm])
theorem low_ok' {a : Fp} (ha : a.ok) : (lowF a).ok := (lowF_nat ha).1
theorem v_low {a : Fp} (ha : a.ok) : (lowF a).v = ri * a.v := by
  have h : (lowF a).v * rv = a.v := V1.ext (by
    rw [V1.nat_mul, Fp.v_nat (low_ok' ha), Fp.v_nat ha]
    show ((lowF a).nat * (rN % pN)) % pN = _
    rw [Nat.mul_mod_mod, (lowF_nat ha).2])
  have h2 := rv_ri
  grind
theorem inv_v {a : Fp} (ha : a.ok) : (a.v = 0 → (invF a).2 = 7) ∧ (a.v ≠ 0 → (invF a).2 = 0 ∧ (invF a).1.ok ∧ (invF a).1.v = Fld.inv a.v) := by
  obtain ⟨h1, h2⟩ := inv_law ha
  constructor
  · intro h
    refine h1 ?_
    have := congrArg V1.nat h
    rwa [Fp.v_nat ha, V1.nat_zero] at this
  · intro h
    have h0 := V1.ne_zero h
    rw [Fp.v_nat ha] at h0
    obtain ⟨i1, i2, i3⟩ := h2 h0
    refine ⟨i1, i2, inv_unique' (V1.ext ?_)⟩
    rw [V1.nat_mul, Fp.v_nat ha, Fp.v_nat i2, i3, V1.nat_one]
def Fp2.ok (a : Fp2) : Prop := a.c0.ok ∧ a.c1.ok
def Fp2.v (a : Fp2) : V2 := ⟨a.c0.v, a.c1.v⟩
theorem Fp2.v_a (a : Fp2) : a.v.a = a.c0.v := rfl
theorem Fp2.v_b (a : Fp2) : a.v.b = a.c1.v := rfl
theorem Fp2.v_inj {a b : Fp2} (ha : a.ok) (hb : b.ok) (h : a.v = b.v) : a = b := by
  have h1 : a.c0 = b.c0 := Fp.v_inj ha.1 hb.1 (congrArg Qd.a h)
  have h2 : a.c1 = b.c1 := Fp.v_inj ha.2 hb.2 (congrArg Qd.b h)
  cases a; cases b
  simp only [] at h1 h2
  subst h1 h2
  rfl
theorem fp2Eq_v {a b : Fp2} (ha : a.ok) (hb : b.ok) : fp2Eq a b = true ↔ a.v = b.v := ⟨fun h => by rw [(fp2Eq_iff a b).1 h], fun h => (fp2Eq_iff a b).2 (Fp2.v_inj ha hb h)⟩
theorem addF2_eq (a b : Fp2) : addF2 a b = ⟨addF a.c0 b.c0, addF a.c1 b.c1⟩ := by unfold addF2 addF2_G; rfl
theorem subF2_eq (a b : Fp2) : subF2 a b = ⟨subF a.c0 b.c0, subF a.c1 b.c1⟩ := by unfold subF2 subF2_G; rfl
theorem negF2_eq (a : Fp2) : negF2 a = ⟨negF a.c0, negF a.c1⟩ := by unfold negF2 negF2_G; rfl
theorem conjF2_eq (a : Fp2) : conjF2 a = ⟨a.c0, negF a.c1⟩ := by unfold conjF2 conjF2_G; rfl
theorem halfF2_eq (a b : Fp2) : halfF2 a b = ⟨subF (halfF a.c0 b.c0) (halfF a.c1 b.c1), subF (halfF (addF a.c0 a.c1) (addF b.c0 b.c1)) (addF (halfF a.c0 b.c0) (halfF a.c1 b.c1))⟩ := by unfold halfF2 halfF2_G; rfl
theorem wholeF2_eq (a : Fp2) : wholeF2 a = ⟨wholeF a.c0, wholeF a.c1⟩ := by unfold wholeF2 wholeF2_G; rfl
theorem lowF2_eq (a : Fp2) : lowF2 a = ⟨lowF a.c0, lowF a.c1⟩ := by unfold lowF2 lowF2_G; rfl
theorem mulF2_eq (a b : Fp2) : mulF2 a b = wholeF2 (halfF2 a b) := by unfold mulF2 mulF2_G; rfl
theorem normF2_G_eq (f g : Fp → Fp → Fp) (a : Fp2) : normF2_G f g a = f (g a.c0 a.c0) (g a.c1 a.c1) := rfl
theorem normF2_eq (a : Fp2) : normF2 a = addF (mulF a.c0 a.c0) (mulF a.c1 a.c1) := by
  unfold normF2
  exact normF2_G_eq addF mulF a
theorem scaledF2_eq (a : Fp2) (k : Fp) : scaledF2 a k = ⟨mulF a.c0 k, mulF a.c1 k⟩ := by unfold scaledF2 scaledF2_G; rfl
theorem Fp2.mk_ok {a b : Fp} (ha : a.ok) (hb : b.ok) : (⟨a, b⟩ : Fp2).ok := ⟨ha, hb⟩
theorem Fp2.mk_v {a b : Fp} {x : V2} (ha : a.v = x.a) (hb : b.v = x.b) : (⟨a, b⟩ : Fp2).v = x := Qd.ext' ha hb
theorem may2_iff (a : Fp2) : mayF2 a = true ↔ a.ok := by
  unfold mayF2 mayF2_G Fp2.ok
  rw [← mayF_ok, ← mayF_ok]
  cases mayF a.c0 <;> simp
theorem zero_ok2 : zeroFp2.ok := ⟨zero_ok', zero_ok'⟩
theorem v_zero2 : zeroFp2.v = 0 := Qd.ext' v_zero v_zero
theorem one_ok2 : oneFp2.ok := ⟨one_ok', zero_ok'⟩
theorem v_one2 : oneFp2.v = 1 := Qd.ext' v_one v_zero
theorem add_ok2 {a b : Fp2} (ha : a.ok) (hb : b.ok) : (addF2 a b).ok := by rw [addF2_eq]; exact Fp2.mk_ok (add_ok' ha.1 hb.1) (add_ok' ha.2 hb.2)
theorem v_add2 {a b : Fp2} (ha : a.ok) (hb : b.ok) : (addF2 a b).v = a.v + b.v := by rw [addF2_eq]; exact Fp2.mk_v (v_add ha.1 hb.1) (v_add ha.2 hb.2)
theorem sub_ok2 {a b : Fp2} (ha : a.ok) (hb : b.ok) : (subF2 a b).ok := by rw [subF2_eq]; exact Fp2.mk_ok (sub_ok' ha.1 hb.1) (sub_ok' ha.2 hb.2)
theorem v_sub2 {a b : Fp2} (ha : a.ok) (hb : b.ok) : (subF2 a b).v = a.v - b.v := by rw [subF2_eq]; exact Fp2.mk_v (v_sub ha.1 hb.1) (v_sub ha.2 hb.2)
theorem neg_ok2 {a : Fp2} (ha : a.ok) : (negF2 a).ok := by rw [negF2_eq]; exact Fp2.mk_ok (neg_ok' ha.1) (neg_ok' ha.2)
theorem v_neg2 {a : Fp2} (ha : a.ok) : (negF2 a).v = -a.v := by rw [negF2_eq]; exact Fp2.mk_v (v_neg ha.1) (v_neg ha.2)
theorem conj_ok2 {a : Fp2} (ha : a.ok) : (conjF2 a).ok := by rw [conjF2_eq]; exact Fp2.mk_ok (ha.1) (neg_ok' ha.2)
theorem v_conj2 {a : Fp2} (ha : a.ok) : (conjF2 a).v = a.v.conj := by rw [conjF2_eq]; exact Fp2.mk_v rfl (v_neg ha.2)
theorem V2.mul_a (x y : V2) : (x * y).a = x.a * y.a - x.b * y.b := by rw [Qd.mul_a, V1.nr_eq]; grind
theorem V2.mul_b (x y : V2) : (x * y).b = x.a * y.b + x.b * y.a := Qd.mul_b x y
theorem xi_a : xi.a = 1 := rfl
theorem xi_b : xi.b = 1 := rfl
def rv2 : V2 := Qd.of rv
def ri2 : V2 := Qd.of ri
theorem rv_ri2 : rv2 * ri2 = 1 := by unfold rv2 ri2; rw [← Qd.of_mul, rv_ri]; rfl
theorem half_ok2 {a b : Fp2} (ha : a.ok) (hb : b.ok) : (halfF2 a b).ok := by rw [halfF2_eq]; exact Fp2.mk_ok (sub_ok' (half_ok' ha.1) (half_ok' ha.2)) (sub_ok' (half_ok' (add_ok' ha.1 ha.2)) (add_ok' (half_ok' ha.1) (half_ok' ha.2)))
theorem v_half2 {a b : Fp2} (ha : a.ok) (hb : b.ok) : (halfF2 a b).v = ri2 * (a.v * b.v) := by
  rw [halfF2_eq]
  exact Fp2.mk_v (by
    rw [v_sub (half_ok' ha.1) (half_ok' ha.2), v_half ha.1 hb.1, v_half ha.2 hb.2, V2.mul_a, V2.mul_a, V2.mul_b]
    rw [show ri2.a = ri from rfl, show ri2.b = 0 from rfl, Fp2.v_a, Fp2.v_b, Fp2.v_a, Fp2.v_b]
    grind)
    (by
    rw [v_sub (half_ok' (add_ok' ha.1 ha.2)) (add_ok' (half_ok' ha.1) (half_ok' ha.2)), v_half (add_ok' ha.1 ha.2) (add_ok' hb.1 hb.2), v_add (half_ok' ha.1) (half_ok' ha.2), v_half ha.1 hb.1, v_half ha.2 hb.2, v_add ha.1 ha.2, v_add hb.1 hb.2, V2.mul_b, V2.mul_a, V2.mul_b]
    rw [show ri2.a = ri from rfl, show ri2.b = 0 from rfl, Fp2.v_a, Fp2.v_b, Fp2.v_a, Fp2.v_b]
    grind)
theorem whole_ok2 {a : Fp2} (ha : a.ok) : (wholeF2 a).ok := by rw [wholeF2_eq]; exact Fp2.mk_ok (whole_ok' ha.1) (whole_ok' ha.2)
theorem of_mul_a (k : V1) (x : V2) : (Qd.of k * x).a = k * x.a := by rw [V2.mul_a]; show k * x.a - 0 * x.b = _; grind
theorem of_mul_b (k : V1) (x : V2) : (Qd.of k * x).b = k * x.b := by rw [V2.mul_b]; show k * x.b + 0 * x.a = _; grind
theorem v_whole2 {a : Fp2} (ha : a.ok) : (wholeF2 a).v = rv2 * a.v := by rw [wholeF2_eq]; exact Fp2.mk_v (by unfold rv2; rw [of_mul_a]; exact v_whole ha.1) (by unfold rv2; rw [of_mul_b]; exact v_whole ha.2)
theorem low_ok2 {a : Fp2} (ha : a.ok) : (lowF2 a).ok := by rw [lowF2_eq]; exact Fp2.mk_ok (low_ok' ha.1) (low_ok' ha.2)
theorem v_low2 {a : Fp2} (ha : a.ok) : (lowF2 a).v = ri2 * a.v := by rw [lowF2_eq]; exact Fp2.mk_v (by unfold ri2; rw [of_mul_a]; exact v_low ha.1) (by unfold ri2; rw [of_mul_b]; exact v_low ha.2)
theorem mul_ok2 {a b : Fp2} (ha : a.ok) (hb : b.ok) : (mulF2 a b).ok := by rw [mulF2_eq]; exact whole_ok2 (half_ok2 ha hb)
theorem v_mul2 {a b : Fp2} (ha : a.ok) (hb : b.ok) : (mulF2 a b).v = a.v * b.v := by
  rw [mulF2_eq, v_whole2 (half_ok2 ha hb), v_half2 ha hb]
  have := rv_ri2
  grind
theorem norm_ok2 {a : Fp2} (ha : a.ok) : (normF2 a).ok := by rw [normF2_eq]; exact add_ok' (mul_ok' ha.1) (mul_ok' ha.2)
theorem V2.norm_eq (x : V2) : x.norm = x.a * x.a + x.b * x.b := by unfold Qd.norm; rw [V1.nr_eq]; grind
theorem v_norm2 {a : Fp2} (ha : a.ok) : (normF2 a).v = a.v.norm := by
  rw [V2.norm_eq, normF2_eq, v_add (mul_ok' ha.1) (mul_ok' ha.2), v_mul ha.1 ha.1, v_mul ha.2 ha.2]
  rfl
theorem scaled_ok2 {a : Fp2} {k : Fp} (ha : a.ok) (hk : k.ok) : (scaledF2 a k).ok := by rw [scaledF2_eq]; exact Fp2.mk_ok (mul_ok' ha.1) (mul_ok' ha.2)
theorem v_scaled2 {a : Fp2} {k : Fp} (ha : a.ok) (hk : k.ok) : (scaledF2 a k).v = Qd.of k.v * a.v := by
  rw [scaledF2_eq]
  exact Fp2.mk_v (by rw [of_mul_a, v_mul ha.1 hk]; exact CR.mul_comm a.c0.v k.v)
    (by rw [of_mul_b, v_mul ha.2 hk]; exact CR.mul_comm a.c1.v k.v)
theorem V2.inv_eq {x : V2} (h : x ≠ 0) : Fld.inv x = Qd.of (Fld.inv x.norm) * x.conj := by
  refine (inv_unique' ?_).symm
  have h1 := Qd.mul_conj x
  have h2 : Qd.of x.norm * Qd.of (Fld.inv x.norm) = (1 : V2) := by rw [← Qd.of_mul, mul_inv' (Qd.norm_ne h)]; rfl
  grind
theorem V2.norm_zero : (0 : V2).norm = 0 := by rw [V2.norm_eq]; show (0 : V1) * 0 + 0 * 0 = 0; grind
theorem invF2_no {f0 : Fp → Fp × Int} {f1 : Fp2 → Fp} (f2 : Fp2 → Fp → Fp2) (f3 : Fp2 → Fp2) {a : Fp2} (h : (f0 (f1 a)).2 = 7) : invF2_G f0 f1 f2 f3 a = (zeroFp2, 7) := by
  unfold invF2_G
  rw [h]
  rfl
theorem invF2_yes {f0 : Fp → Fp × Int} {f1 : Fp2 → Fp} (f2 : Fp2 → Fp → Fp2) (f3 : Fp2 → Fp2) {a : Fp2} (h : (f0 (f1 a)).2 = 0) : invF2_G f0 f1 f2 f3 a = (f2 (f3 a) (f0 (f1 a)).1, 0) := by
  unfold invF2_G
  rw [h]
  rfl
theorem inv_v2 {a : Fp2} (ha : a.ok) : (a.v = 0 → invF2 a = (zeroFp2, 7)) ∧ (a.v ≠ 0 → (invF2 a).2 = 0 ∧ (invF2 a).1.ok ∧ (invF2 a).1.v = Fld.inv a.v) := by
  obtain ⟨h1, h2⟩ := inv_v (norm_ok2 ha)
  rw [v_norm2 ha] at h1 h2
  unfold invF2
  constructor
  · intro h
    exact invF2_no _ _ (h1 (by rw [h]; exact V2.norm_zero))
  · intro h
    obtain ⟨i1, i2, i3⟩ := h2 (Qd.norm_ne h)
    rw [invF2_yes _ _ i1]
    simp only []
    refine ⟨trivial, scaled_ok2 (conj_ok2 ha) i2, ?_⟩
    rw [v_scaled2 (conj_ok2 ha) i2, i3, v_conj2 ha, V2.inv_eq h]
end Go.Proofs.Ytchlamfdofpolaa

set_option linter.unusedSimpArgs false
set_option linter.unusedVariables false
namespace Go.Proofs.Ytchlamfdofpolaa
open Go.RowKit
theorem add2R_G_eq (f : Fp → Fp → Fp) (a b : Fp2) : add2R_G f a b = ⟨f a.c0 b.c0, f a.c1 b.c1⟩ := rfl
theorem sub2R_G_eq (f : Fp → Fp → Fp) (a b : Fp2) : sub2R_G f a b = ⟨f a.c0 b.c0, f a.c1 b.c1⟩ := rfl
theorem mul2R_G_eq (f g h : Fp → Fp → Fp) (a b : Fp2) : mul2R_G f g h a b = ⟨f (g a.c0 b.c0) (g a.c1 b.c1), h (g a.c0 b.c1) (g a.c1 b.c0)⟩ := rfl
theorem conj2R_G_eq (f : Fp → Fp) (a : Fp2) : conj2R_G f a = ⟨a.c0, f a.c1⟩ := rfl
theorem one2R_G_eq (f : UInt64 → Fp) : one2R_G f = ⟨f 1, zeroFp⟩ := rfl
theorem xi2R_G_eq (f : UInt64 → Fp) : xi2R_G f = ⟨f 1, f 1⟩ := rfl
theorem add2R_eq (a b : Fp2) : add2R a b = addF2 a b := by
  unfold add2R
  rw [add2R_G_eq, addPF_eq, addPF_eq, addF2_eq]
theorem sub2R_eq (a b : Fp2) : sub2R a b = subF2 a b := by
  unfold sub2R
  rw [sub2R_G_eq, subPF_eq, subPF_eq, subF2_eq]
theorem conj2R_eq (a : Fp2) : conj2R a = conjF2 a := by
  unfold conj2R
  rw [conj2R_G_eq, negPF_eq, conjF2_eq]
theorem one2R_eq : one2R = oneFp2 := by
  unfold one2R
  rw [one2R_G_eq, one_of]
  rfl
theorem xi2R_eq' : xi2R = ⟨oneFp, oneFp⟩ := by
  unfold xi2R
  rw [xi2R_G_eq, one_of]
theorem xi_ok2 : xi2R.ok := by rw [xi2R_eq']; exact ⟨one_ok', one_ok'⟩
theorem v_xi2 : xi2R.v = xi := by rw [xi2R_eq']; exact Qd.ext' v_one v_one
theorem mul2R_eq {a b : Fp2} (ha : a.ok) (hb : b.ok) : mul2R a b = mulF2 a b := by
  unfold mul2R
  rw [mul2R_G_eq, mulPF_eq ha.1 hb.1, mulPF_eq ha.2 hb.2, mulPF_eq ha.1 hb.2, mulPF_eq ha.2 hb.1, subPF_eq, addPF_eq]
  refine Fp2.v_inj (Fp2.mk_ok (sub_ok' (mul_ok' ha.1) (mul_ok' ha.2)) (add_ok' (mul_ok' ha.1) (mul_ok' ha.2))) (mul_ok2 ha hb) ?_
  rw [v_mul2 ha hb]
  refine Fp2.mk_v ?_ ?_
  · rw [V2.mul_a, v_sub (mul_ok' ha.1) (mul_ok' ha.2), v_mul ha.1 hb.1, v_mul ha.2 hb.2, Fp2.v_a, Fp2.v_a, Fp2.v_b, Fp2.v_b]
  · rw [V2.mul_b, v_add (mul_ok' ha.1) (mul_ok' ha.2), v_mul ha.1 hb.2, v_mul ha.2 hb.1, Fp2.v_a, Fp2.v_a, Fp2.v_b, Fp2.v_b]
theorem inv2R_no {f0 : Fp2 → Fp2 → Fp2} {f1 : Fp2 → Fp2} {f2 : Fp → Fp × Int} {a : Fp2} (h : (f2 (f0 a (f1 a)).c0).2 = 7) : inv2R_G f0 f1 f2 a = (zeroFp2, 7) := by
  unfold inv2R_G
  rw [h]
  rfl
theorem inv2R_yes {f0 : Fp2 → Fp2 → Fp2} {f1 : Fp2 → Fp2} {f2 : Fp → Fp × Int} {a : Fp2} (h : (f2 (f0 a (f1 a)).c0).2 = 0) : inv2R_G f0 f1 f2 a = (f0 (f1 a) ⟨(f2 (f0 a (f1 a)).c0).1, zeroFp⟩, 0) := by
  unfold inv2R_G
  rw [h]
  rfl
theorem inv2R_eq {a : Fp2} (ha : a.ok) : inv2R a = invF2 a := by
  have hc := conj_ok2 ha
  have hn : (mul2R a (conj2R a)).c0 = normF2 a := by
    rw [conj2R_eq, mul2R_eq ha hc]
    refine Fp.v_inj (mul_ok2 ha hc).1 (norm_ok2 ha) ?_
    rw [v_norm2 ha, ← Fp2.v_a, v_mul2 ha hc, v_conj2 ha, Qd.mul_conj]
    rfl
  obtain ⟨h1, h2⟩ := inv_v (norm_ok2 ha)
  obtain ⟨k1, k2⟩ := inv_v2 ha
  rw [v_norm2 ha] at h1 h2
  by_cases h0 : a.v = 0
  · rw [k1 h0]
    unfold inv2R
    exact inv2R_no (by rw [hn, invPF_eq (norm_ok2 ha)]; exact h1 (by rw [h0]; exact V2.norm_zero))
  · obtain ⟨i1, i2, i3⟩ := h2 (Qd.norm_ne h0)
    obtain ⟨j1, j2, j3⟩ := k2 h0
    have e : inv2R a = (mul2R (conj2R a) ⟨(invF (normF2 a)).1, zeroFp⟩, 0) := by
      unfold inv2R
      rw [inv2R_yes (by rw [hn, invPF_eq (norm_ok2 ha)]; exact i1), hn, invPF_eq (norm_ok2 ha)]
    have hq : (⟨(invF (normF2 a)).1, zeroFp⟩ : Fp2).ok := Fp2.mk_ok i2 zero_ok'
    rw [e]
    refine Prod.ext ?_ j1.symm
    simp only []
    rw [conj2R_eq, mul2R_eq hc hq]
    refine Fp2.v_inj (mul_ok2 hc hq) j2 ?_
    rw [j3, v_mul2 hc hq, v_conj2 ha, V2.inv_eq h0, show (⟨(invF (normF2 a)).1, zeroFp⟩ : Fp2).v = Qd.of (Fld.inv a.v.norm) from Fp2.mk_v i3 v_zero]
    exact CR.mul_comm _ _
def i2 : V1 := Fld.inv 2
section
variable {f0 : Fp → Fp2} {f1 : Fp2 → Fp} {f2 : Fp → Fp × Bool} {f3 : Fp2 → Fp → Fp2} {f4 : Fp2 → Fp2 → Fp2} {f5 : Fp2 → Bool} {f6 : Fp2 → Fp2} {a : Fp2}
end
section
variable {f0 : Fp → Fp × Int} {f1 : UInt64 → Fp} {f2 : Fp → Fp × Bool} {f3 f4 : Fp → Fp → Fp} {f5 : Fp → Fp} {f6 : Fp2 → Fp2 → Fp2} {f7 : Fp2 → Bool} {f8 : Fp2 → Fp2} {a : Fp2} {n : Fp}
variable (hn : (f2 (f3 (f4 a.c0 a.c0) (f4 a.c1 a.c1))).1 = n) (h : (f2 (f3 (f4 a.c0 a.c0) (f4 a.c1 a.c1))).2 = true)
include hn h
end
end Go.Proofs.Ytchlamfdofpolaa

set_option linter.unusedSimpArgs false
set_option linter.unusedVariables false
namespace Go.Proofs.Ytchlamfdofpolaa
theorem W64_pow (k : Nat) : W64 ^ k = 2 ^ (64 * k) := by
  rw [show W64 = 2 ^ 64 from rfl, ← Nat.pow_mul]
theorem bit_step (x j : Nat) : x % 2 ^ (j + 1) = x % 2 ^ j + (x.testBit j).toNat * 2 ^ j := by
  rw [Nat.pow_succ, Nat.mod_mul]
  rw [Nat.testBit_eq_decide_div_mod_eq]
  have h : x / 2 ^ j % 2 < 2 := Nat.mod_lt _ (by decide)
  rcases (by omega : x / 2 ^ j % 2 = 0 ∨ x / 2 ^ j % 2 = 1) with h1 | h1
  · rw [h1]; simp
  · rw [h1]; simp
theorem eLow_in (e : List UInt64) (k : Nat) (hk : eLow e (64 * k) = valAt e k) : ∀ j, j ≤ 64 → eLow e (64 * k + j) = valAt e k + (atF e k).toNat % 2 ^ j * 2 ^ (64 * k)
  | 0, _ => by rw [Nat.add_zero, hk, Nat.pow_zero, Nat.mod_one, Nat.zero_mul, Nat.add_zero]
  | j + 1, h => by
    rw [show 64 * k + (j + 1) = (64 * k + j) + 1 from rfl]
    simp only [eLow]
    rw [eLow_in e k hk j (by omega), bit_step, Nat.add_mul]
    have hb : bitAt e (64 * k + j) = (atF e k).toNat.testBit j := by
      unfold bitAt atF
      rw [show (64 * k + j) / 64 = k by omega, show (64 * k + j) % 64 = j by omega]
    rw [hb, Nat.add_assoc, show 2 ^ (64 * k + j) = 2 ^ j * 2 ^ (64 * k) by rw [Nat.pow_add, Nat.mul_comm], Nat.mul_assoc]
theorem eLow_val (e : List UInt64) : ∀ k, eLow e (64 * k) = valAt e k
  | 0 => rfl
  | k + 1 => by
    rw [show 64 * (k + 1) = 64 * k + 64 by omega, eLow_in e k (eLow_val e k) 64 (Nat.le_refl _)]
    simp only [valAt]
    rw [W64_pow, Nat.mod_eq_of_lt (UInt64.toNat_lt _)]
theorem eLow_valL (e : List UInt64) : eLow e (64 * e.length) = valL e := eLow_val e _
end Go.Proofs.Ytchlamfdofpolaa

set_option linter.unusedSimpArgs false
set_option linter.unusedVariables false
namespace Go.Proofs.Ytchlamfdofpolaa
def dblG {α : Type} (tw pl : α → α) (e : List UInt64) : Nat → α → α
  | 0, x => x
  | n + 1, x => dblG tw pl e n (match bitAt e n with | true => pl (tw x) | false => tw x)
theorem dblG_pt {α K : Type} [Fld K] [Crv K] (R : α → Pt K → Prop) {tw pl : α → α} {p : Pt K} (hp : p.on) (h1 : ∀ {o : α} {q : Pt K}, q.on → R o q → R (tw o) (q.add q)) (h2 : ∀ {o : α} {q : Pt K}, q.on → R o q → R (pl o) (q.add p)) (e : List UInt64) :
    ∀ (n : Nat) {o : α} {q : Pt K}, q.on → R o q → R (dblG tw pl e n o) ((q.mul (2 ^ n)).add (p.mul (eLow e n)))
  | 0, o, q, hq, h => by
    show R o ((q.mul 1).add (p.mul 0))
    rw [mul_one_pt, mul_zero_pt, add_inf]
    exact h
  | n + 1, o, q, hq, h => by
    have e2 : (2 : Nat) ^ (n + 1) = 2 ^ n + 2 ^ n := by rw [Nat.pow_succ]; omega
    have hqq := add_on hq hq
    simp only [dblG]
    cases hb : bitAt e n with
    | true =>
      have ih := dblG_pt R hp h1 h2 e n (add_on hqq hp) (h2 hqq (h1 hq h))
      have el : eLow e (n + 1) = 2 ^ n + eLow e n := by simp only [eLow, hb, Bool.toNat_true, Nat.one_mul]; exact Nat.add_comm _ _
      rw [add_mul_pt hqq hp, add_mul_pt hq hq, ← mul_add_pt hq, ← e2, add_assoc_pt (mul_on hq _) (mul_on hp _) (mul_on hp _), ← mul_add_pt hp, ← el] at ih
      exact ih
    | false =>
      have ih := dblG_pt R hp h1 h2 e n hqq (h1 hq h)
      have el : eLow e (n + 1) = eLow e n := by simp only [eLow, hb, Bool.toNat_false, Nat.zero_mul, Nat.add_zero]
      rw [add_mul_pt hq hq, ← mul_add_pt hq, ← e2, ← el] at ih
      exact ih
theorem dblG_all {α K : Type} [Fld K] [Crv K] (R : α → Pt K → Prop) {tw pl : α → α} {p : Pt K} (hp : p.on) (h1 : ∀ {o : α} {q : Pt K}, q.on → R o q → R (tw o) (q.add q)) (h2 : ∀ {o : α} {q : Pt K}, q.on → R o q → R (pl o) (q.add p)) (e : List UInt64) {o : α} (h : R o .inf) :
    R (dblG tw pl e (64 * e.length) o) (p.mul (valL e)) := by
  have := dblG_pt R hp h1 h2 e (64 * e.length) (q := .inf) trivial h
  rw [mul_inf_pt, inf_add, eLow_valL] at this
  exact this
theorem V1.four_cube : ∀ x : V1, x * x * x + 4 ≠ 0 := fun x h => by
  have hx : x ≠ 0 := fun e => by
    rw [e] at h
    have h4 : (4 : V1) = 0 := by grind
    have := congrArg V1.nat h4
    exact absurd this (by decide +kernel)
  have h1 : x ^ 3 = -4 := by grind
  have h2 : (-4 : V1) ^ ((pN - 1) / 3) = 1 := by
    rw [← h1, ← pow_mul', Nat.mul_comm, third]
    exact V1.fermat hx
  have h3 := congrArg V1.nat h2
  have h4 : (-4 : V1).nat = pN - 4 := by decide +kernel
  rw [V1.nat_pow, h4, V1.nat_one, ← mpow_eq pN 381 _ _ (by decide +kernel)] at h3
  exact absurd h3 (by decide +kernel)
instance crv1 : Crv V1 where
  b := 4
  two := two_ne
  no := V1.four_cube
def bb2 : V2 := ⟨4, 4⟩
theorem bb2_norm : bb2.norm = 32 := by
  rw [V2.norm_eq]
  show (4 : V1) * 4 + 4 * 4 = 32
  grind
theorem V2.two_ne : (2 : V2) ≠ 0 := fun e => Go.Proofs.Ytchlamfdofpolaa.two_ne (by
  have := congrArg Qd.a e
  exact this)
theorem V2.four_cube : ∀ x : V2, x * x * x + bb2 ≠ 0 := fun x h => by
  have h1 : x * x * x = -bb2 := by grind
  have h2 : x.norm * x.norm * x.norm = 32 := by
    rw [← Qd.norm_mul, ← Qd.norm_mul, h1, ← bb2_norm, V2.norm_eq, V2.norm_eq]
    show -bb2.a * -bb2.a + -bb2.b * -bb2.b = _
    grind
  have hx : x.norm ≠ 0 := fun e => by
    rw [e] at h2
    have h4 : (32 : V1) = 0 := h2.symm.trans (CR.mul_zero _)
    have := congrArg V1.nat h4
    exact absurd this (by decide +kernel)
  have h3 : (32 : V1) ^ ((pN - 1) / 3) = 1 := by
    have e : (32 : V1) = x.norm ^ 3 := by rw [← h2]; grind
    rw [e, ← pow_mul', Nat.mul_comm, third]
    exact V1.fermat hx
  have h5 := congrArg V1.nat h3
  have h4 : (32 : V1).nat = 32 := by decide +kernel
  rw [V1.nat_pow, h4, V1.nat_one, ← mpow_eq pN 381 _ _ (by decide +kernel)] at h5
  exact absurd h5 (by decide +kernel)
instance crv2 : Crv V2 where
  b := bb2
  two := V2.two_ne
  no := V2.four_cube
theorem inv_v2' {a : Fp2} (ha : a.ok) : (a.v = 0 → (invF2 a).2 = 7) ∧ (a.v ≠ 0 → (invF2 a).2 = 0 ∧ (invF2 a).1.ok ∧ (invF2 a).1.v = Fld.inv a.v) := ⟨fun h => congrArg Prod.snd ((inv_v2 ha).1 h), (inv_v2 ha).2⟩
end Go.Proofs.Ytchlamfdofpolaa

set_option linter.unusedSimpArgs false
set_option linter.unusedVariables false
namespace Go.Proofs.Ytchlamfdofpolaa
open Go.RowKit
def bFp1 : Fp := ⟨4, 0, 0, 0, 0, 0⟩
theorem bFp1_v : bFp1.ok ∧ bFp1.v = Crv.b := ⟨ofF_ok 4, by
  show (ofF 4).v = 4
  rw [v_of]
  exact V1.ext (by decide +kernel)⟩
def Pg1.pt (p : Pg1) : Pt V1 := match p.inf with
  | true => .inf
  | false => .aff p.x.v p.y.v
def Pg1.ok (p : Pg1) : Prop := p = infG1 ∨ (p.inf = false ∧ p.x.ok ∧ p.y.ok)
def Pg1.good (p : Pg1) : Prop := p.ok ∧ p.pt.on
def m1 (a : Fp) : V1 := ri * a.v
theorem jc_inv {K : Type} [Fld K] {x z : K} (hz : z ≠ 0) : x * (z * z) * (Fld.inv z * Fld.inv z) = x := by
  have := mul_inv' hz
  grind
theorem jc_inv3 {K : Type} [Fld K] {y z : K} (hz : z ≠ 0) : y * (z * z * z) * (Fld.inv z * Fld.inv z * Fld.inv z) = y := by
  have := mul_inv' hz
  grind
section
variable {f0 : Fp → Bool} {f1 f2 f4 : Fp → Fp → Fp} {f3 : Sp1 → Sp1} {s t : Sp1}
end
end Go.Proofs.Ytchlamfdofpolaa

set_option linter.unusedSimpArgs false
set_option linter.unusedVariables false
namespace Go.Proofs.Ytchlamfdofpolaa
open Go.RowKit
def bFp2 : Fp2 := ⟨bFp1, bFp1⟩
theorem bFp2_v : bFp2.ok ∧ bFp2.v = Crv.b := ⟨Fp2.mk_ok bFp1_v.1 bFp1_v.1, Qd.ext' bFp1_v.2 bFp1_v.2⟩
theorem onG2_inf {f0 : Fp2 → Bool} {f1 : Fp2 → Fp2 → Fp2} {f2 : Fp2 → Fp2} {p : Pg2} (h : p.inf = true) : onG2_G f0 f1 f2 p = pg2Eq p infG2 := by unfold onG2_G; rw [h]
theorem onG2_aff {f0 : Fp2 → Bool} {f1 : Fp2 → Fp2 → Fp2} {f2 : Fp2 → Fp2} {p : Pg2} (h : p.inf = false) : onG2_G f0 f1 f2 p = (f0 p.x && f0 p.y && fp2Eq (f1 p.y p.y) (f2 p.x)) := by
  unfold onG2_G
  rw [h]
  cases f0 p.x <;> cases f0 p.y <;> rfl
theorem liftG2_inf {f0 : Fp2 → Fp2} {p : Pg2} (h : p.inf = true) : liftG2_G f0 p = zeroFp6 := by unfold liftG2_G; rw [h]
theorem liftG2_aff {f0 : Fp2 → Fp2} {p : Pg2} (h : p.inf = false) : liftG2_G f0 p = ⟨f0 p.x, f0 p.y, f0 oneFp2⟩ := by unfold liftG2_G; rw [h]
theorem laysG2_no {f0 : Fp2 → Fp2 × Int} {f1 : Fp2 → Fp2} {f2 : Fp2 → Fp2 → Fp2} {s : Fp6} (h : (f0 (f1 s.c2)).2 = 7) : laysG2_G f0 f1 f2 s = infG2 := by
  unfold laysG2_G
  rw [h]
  rfl
theorem laysG2_yes {f0 : Fp2 → Fp2 × Int} {f1 : Fp2 → Fp2} {f2 : Fp2 → Fp2 → Fp2} {s : Fp6} (h : (f0 (f1 s.c2)).2 = 0) : laysG2_G f0 f1 f2 s = ⟨f2 (f1 s.c0) (f2 (f0 (f1 s.c2)).1 (f0 (f1 s.c2)).1), f2 (f1 s.c1) (f2 (f2 (f0 (f1 s.c2)).1 (f0 (f1 s.c2)).1) (f0 (f1 s.c2)).1), false⟩ := by
  unfold laysG2_G
  rw [h]
  rfl
theorem negG2_inf {f0 : Fp2 → Fp2} {p : Pg2} (h : p.inf = true) : negG2_G f0 p = p := by unfold negG2_G; rw [h]
theorem negG2_aff {f0 : Fp2 → Fp2} {p : Pg2} (h : p.inf = false) : negG2_G f0 p = ⟨p.x, f0 p.y, false⟩ := by unfold negG2_G; rw [h]
theorem zeroG2_eq (a : Fp2) : zeroG2 a = fp2Eq a zeroFp2 := by unfold zeroG2 zeroG2_G; rfl
theorem eqG2_eq (a b : Pg2) : eqG2 a b = pg2Eq a b := by unfold eqG2 eqG2_G; rfl
def Pg2.pt (p : Pg2) : Pt V2 := match p.inf with
  | true => .inf
  | false => .aff p.x.v p.y.v
def Pg2.ok (p : Pg2) : Prop := p = infG2 ∨ (p.inf = false ∧ p.x.ok ∧ p.y.ok)
def Pg2.good (p : Pg2) : Prop := p.ok ∧ p.pt.on
theorem pt2_inf {p : Pg2} (h : p.inf = true) : p.pt = .inf := by unfold Pg2.pt; rw [h]
theorem pt2_aff {p : Pg2} (h : p.inf = false) : p.pt = .aff p.x.v p.y.v := by unfold Pg2.pt; rw [h]
theorem good_inf2 : infG2.good := ⟨.inl rfl, trivial⟩
theorem ok_inf2 {p : Pg2} (h : p.ok) (hi : p.inf = true) : p = infG2 := by
  rcases h with h | ⟨h, _⟩
  · exact h
  · rw [hi] at h; cases h
theorem ok_aff2 {p : Pg2} (h : p.ok) (hi : p.inf = false) : p.x.ok ∧ p.y.ok := by
  rcases h with h | ⟨_, h⟩
  · rw [h] at hi; cases hi
  · exact h
theorem pg2_eq {a b : Pg2} (h1 : a.x = b.x) (h2 : a.y = b.y) (h3 : a.inf = b.inf) : a = b := by
  cases a; cases b
  simp_all
theorem good2_mk {x y : Fp2} {u v : V2} (hx : x.ok) (hy : y.ok) (ex : x.v = u) (ey : y.v = v) (h : (Pt.aff u v).on) : (⟨x, y, false⟩ : Pg2).good ∧ (⟨x, y, false⟩ : Pg2).pt = .aff u v := by
  subst ex ey
  exact ⟨⟨.inr ⟨rfl, hx, hy⟩, h⟩, rfl⟩
theorem pt2_inj {a b : Pg2} (ha : a.ok) (hb : b.ok) (h : a.pt = b.pt) : a = b := by
  cases ea : a.inf with
  | true =>
    cases eb : b.inf with
    | true => rw [ok_inf2 ha ea, ok_inf2 hb eb]
    | false => rw [pt2_inf ea, pt2_aff eb] at h; cases h
  | false =>
    cases eb : b.inf with
    | true => rw [pt2_aff ea, pt2_inf eb] at h; cases h
    | false =>
      rw [pt2_aff ea, pt2_aff eb] at h
      obtain ⟨a1, a2⟩ := ok_aff2 ha ea
      obtain ⟨b1, b2⟩ := ok_aff2 hb eb
      injection h with h1 h2
      exact pg2_eq (Fp2.v_inj a1 b1 h1) (Fp2.v_inj a2 b2 h2) (ea.trans eb.symm)
theorem pg2Eq_pt {a b : Pg2} (ha : a.ok) (hb : b.ok) : pg2Eq a b = true ↔ a.pt = b.pt := ⟨fun h => by rw [(pg2Eq_iff a b).1 h], fun h => (pg2Eq_iff a b).2 (pt2_inj ha hb h)⟩
def m2 (a : Fp2) : V2 := ri2 * a.v
theorem m2_add {a b : Fp2} (ha : a.ok) (hb : b.ok) : m2 (addF2 a b) = m2 a + m2 b := by unfold m2; rw [v_add2 ha hb]; exact CR.dist _ _ _
theorem m2_sub {a b : Fp2} (ha : a.ok) (hb : b.ok) : m2 (subF2 a b) = m2 a - m2 b := by unfold m2; rw [v_sub2 ha hb]; grind
theorem m2_half {a b : Fp2} (ha : a.ok) (hb : b.ok) : m2 (halfF2 a b) = m2 a * m2 b := by unfold m2; rw [v_half2 ha hb]; grind
theorem m2_whole {a : Fp2} (ha : a.ok) : m2 (wholeF2 a) = a.v := by
  unfold m2
  rw [v_whole2 ha]
  have := rv_ri2
  grind
theorem v_low_m2 {a : Fp2} (ha : a.ok) : (lowF2 a).v = m2 a := v_low2 ha
theorem ri_ne2 : ri2 ≠ 0 := fun e => one_ne' (K := V2) (by rw [← rv_ri2, e]; exact CR.mul_zero _)
theorem m2_zero {a : Fp2} (ha : a.ok) : zeroG2 a = true ↔ m2 a = 0 := by
  rw [zeroG2_eq, fp2Eq_v ha zero_ok2, v_zero2]
  unfold m2
  constructor
  · intro h; rw [h]; exact CR.mul_zero _
  · intro h; exact (mul_eq_zero' h).resolve_left ri_ne2
theorem m2_nonzero {a : Fp2} (ha : a.ok) : zeroG2 a = false ↔ m2 a ≠ 0 := by rw [← Bool.not_eq_true, m2_zero ha]
def rel2 (s : Fp6) (p : Pt V2) : Prop := (s.c0.ok ∧ s.c1.ok ∧ s.c2.ok) ∧ Jc (m2 s.c0) (m2 s.c1) (m2 s.c2) p
theorem rel2_mk {x y z : Fp2} {p : Pt V2} (hx : x.ok) (hy : y.ok) (hz : z.ok) (h : Jc (m2 x) (m2 y) (m2 z) p) : rel2 ⟨x, y, z⟩ p := ⟨⟨hx, hy, hz⟩, h⟩
theorem rel2_inf : rel2 zeroFp6 .inf := ⟨⟨zero_ok2, zero_ok2, zero_ok2⟩, by
  show m2 zeroFp2 = 0
  unfold m2
  rw [v_zero2]
  exact CR.mul_zero _⟩
theorem lift2_rel {p : Pg2} (h : p.good) : rel2 (liftG2 p) p.pt := by
  unfold liftG2
  cases hi : p.inf with
  | true => rw [liftG2_inf hi, pt2_inf hi]; exact rel2_inf
  | false =>
    obtain ⟨hx, hy⟩ := ok_aff2 h.1 hi
    rw [liftG2_aff hi, pt2_aff hi]
    refine rel2_mk (whole_ok2 hx) (whole_ok2 hy) (whole_ok2 one_ok2) ?_
    rw [m2_whole hx, m2_whole hy, m2_whole one_ok2, v_one2]
    exact ⟨one_ne', by grind, by grind⟩
theorem lays2_rel {s : Fp6} {p : Pt V2} (hp : p.on) (h : rel2 s p) : (laysG2 s).good ∧ (laysG2 s).pt = p := by
  obtain ⟨⟨hx, hy, hz⟩, hj⟩ := h
  obtain ⟨i1, i2⟩ := inv_v2' (low_ok2 hz)
  rw [v_low_m2 hz] at i1 i2
  unfold laysG2
  by_cases h0 : m2 s.c2 = 0
  · rw [laysG2_no (i1 h0), hj.inf_of h0]
    exact ⟨good_inf2, rfl⟩
  · obtain ⟨j1, j2, j3⟩ := i2 h0
    obtain ⟨x, y, rfl, e1, e2⟩ := hj.aff_of h0
    rw [laysG2_yes j1]
    have kk := mul_ok2 j2 j2
    have kkk := mul_ok2 kk j2
    have lx := low_ok2 hx
    have ly := low_ok2 hy
    have ex : (mulF2 (lowF2 s.c0) (mulF2 (invF2 (lowF2 s.c2)).1 (invF2 (lowF2 s.c2)).1)).v = x := by
      rw [v_mul2 lx kk, v_mul2 j2 j2, v_low_m2 hx, j3, e1]
      exact jc_inv h0
    have ey : (mulF2 (lowF2 s.c1) (mulF2 (mulF2 (invF2 (lowF2 s.c2)).1 (invF2 (lowF2 s.c2)).1) (invF2 (lowF2 s.c2)).1)).v = y := by
      rw [v_mul2 ly kkk, v_mul2 kk j2, v_mul2 j2 j2, v_low_m2 hy, j3, e2]
      exact jc_inv3 h0
    exact good2_mk (mul_ok2 lx kk) (mul_ok2 ly kkk) ex ey hp
theorem jx_of2 (x y : V2) : ((x * x + x * x) + x * x) * ((x * x + x * x) + x * x) - ((x * (y * y) + x * (y * y) + (x * (y * y) + x * (y * y))) + (x * (y * y) + x * (y * y) + (x * (y * y) + x * (y * y)))) = jx x y := by unfold jx; grind
theorem jy_of2 (x y : V2) : ((x * x + x * x) + x * x) * ((x * (y * y) + x * (y * y) + (x * (y * y) + x * (y * y))) - jx x y) - ((y * y * (y * y) + y * y * (y * y) + (y * y * (y * y) + y * y * (y * y))) + (y * y * (y * y) + y * y * (y * y) + (y * y * (y * y) + y * y * (y * y)))) = jy x y := by unfold jy; generalize jx x y = k; grind
theorem jz_of2 (y z : V2) : y * z + y * z = jz y z := by unfold jz; grind
theorem twice2_rel {s : Fp6} {p : Pt V2} (hp : p.on) (h : rel2 s p) : rel2 (twiceG2 s) (p.add p) := by
  obtain ⟨⟨hx, hy, hz⟩, hj⟩ := h
  have ha := half_ok2 hx hx
  have hb := half_ok2 hy hy
  have hc := half_ok2 hb hb
  have hd := half_ok2 hx hb
  have hd2 := add_ok2 hd hd
  have hd4 := add_ok2 hd2 hd2
  have he := add_ok2 (add_ok2 ha ha) ha
  have hee := half_ok2 he he
  have hd8 := add_ok2 hd4 hd4
  have hX := sub_ok2 hee hd8
  have hc2 := add_ok2 hc hc
  have hc4 := add_ok2 hc2 hc2
  have hc8 := add_ok2 hc4 hc4
  have hyz := half_ok2 hy hz
  have hs := sub_ok2 hd4 hX
  have hes := half_ok2 he hs
  have hj' := twice_all hp hj
  have e1 := m2_sub hee hd8
  rw [m2_half he he, m2_add hd4 hd4, m2_add hd2 hd2, m2_add hd hd, m2_half hx hb, m2_half hy hy, m2_add (add_ok2 ha ha) ha, m2_add ha ha, m2_half hx hx, jx_of2] at e1
  have e2 := m2_sub hes hc8
  rw [m2_half he hs, m2_sub hd4 hX, e1, m2_add hc4 hc4, m2_add hc2 hc2, m2_add hc hc, m2_half hb hb, m2_add hd2 hd2, m2_add hd hd, m2_half hx hb, m2_half hy hy, m2_add (add_ok2 ha ha) ha, m2_add ha ha, m2_half hx hx, jy_of2] at e2
  have e3 := m2_add hyz hyz
  rw [m2_half hy hz, jz_of2] at e3
  unfold twiceG2 twiceG2_G
  refine rel2_mk hX (sub_ok2 hes hc8) (add_ok2 hyz hyz) ?_
  rw [e1, e2, e3]
  exact hj'
section
variable {f0 : Fp2 → Bool} {f1 f2 f4 : Fp2 → Fp2 → Fp2} {f3 : Fp6 → Fp6} {s t : Fp6}
theorem plusG2_l (h : f0 s.c2 = true) : plusG2_G f0 f1 f2 f3 f4 s t = t := by unfold plusG2_G; rw [h]
theorem plusG2_r (h : f0 s.c2 = false) (h2 : f0 t.c2 = true) : plusG2_G f0 f1 f2 f3 f4 s t = s := by unfold plusG2_G; rw [h, h2]
theorem plusG2_tw (h : f0 s.c2 = false) (h2 : f0 t.c2 = false) (h3 : f0 (f2 (f1 t.c0 (f1 s.c2 s.c2)) (f1 s.c0 (f1 t.c2 t.c2))) = true) (h4 : f0 (f2 (f1 t.c1 (f1 (f1 s.c2 s.c2) s.c2)) (f1 s.c1 (f1 (f1 t.c2 t.c2) t.c2))) = true) : plusG2_G f0 f1 f2 f3 f4 s t = f3 s := by
  unfold plusG2_G
  rw [h, h2, h3, h4]
theorem plusG2_no (h : f0 s.c2 = false) (h2 : f0 t.c2 = false) (h3 : f0 (f2 (f1 t.c0 (f1 s.c2 s.c2)) (f1 s.c0 (f1 t.c2 t.c2))) = true) (h4 : f0 (f2 (f1 t.c1 (f1 (f1 s.c2 s.c2) s.c2)) (f1 s.c1 (f1 (f1 t.c2 t.c2) t.c2))) = false) : plusG2_G f0 f1 f2 f3 f4 s t = zeroFp6 := by
  unfold plusG2_G
  rw [h, h2, h3, h4]
theorem plusG2_all (h : f0 s.c2 = false) (h2 : f0 t.c2 = false) (h3 : f0 (f2 (f1 t.c0 (f1 s.c2 s.c2)) (f1 s.c0 (f1 t.c2 t.c2))) = false) : plusG2_G f0 f1 f2 f3 f4 s t = ⟨(f2 (f2 (f1 (f2 (f1 t.c1 (f1 (f1 s.c2 s.c2) s.c2)) (f1 s.c1 (f1 (f1 t.c2 t.c2) t.c2))) (f2 (f1 t.c1 (f1 (f1 s.c2 s.c2) s.c2)) (f1 s.c1 (f1 (f1 t.c2 t.c2) t.c2)))) (f1 (f1 (f2 (f1 t.c0 (f1 s.c2 s.c2)) (f1 s.c0 (f1 t.c2 t.c2))) (f2 (f1 t.c0 (f1 s.c2 s.c2)) (f1 s.c0 (f1 t.c2 t.c2)))) (f2 (f1 t.c0 (f1 s.c2 s.c2)) (f1 s.c0 (f1 t.c2 t.c2))))) (f4 (f1 (f1 s.c0 (f1 t.c2 t.c2)) (f1 (f2 (f1 t.c0 (f1 s.c2 s.c2)) (f1 s.c0 (f1 t.c2 t.c2))) (f2 (f1 t.c0 (f1 s.c2 s.c2)) (f1 s.c0 (f1 t.c2 t.c2))))) (f1 (f1 s.c0 (f1 t.c2 t.c2)) (f1 (f2 (f1 t.c0 (f1 s.c2 s.c2)) (f1 s.c0 (f1 t.c2 t.c2))) (f2 (f1 t.c0 (f1 s.c2 s.c2)) (f1 s.c0 (f1 t.c2 t.c2))))))), (f2 (f1 (f2 (f1 t.c1 (f1 (f1 s.c2 s.c2) s.c2)) (f1 s.c1 (f1 (f1 t.c2 t.c2) t.c2))) (f2 (f1 (f1 s.c0 (f1 t.c2 t.c2)) (f1 (f2 (f1 t.c0 (f1 s.c2 s.c2)) (f1 s.c0 (f1 t.c2 t.c2))) (f2 (f1 t.c0 (f1 s.c2 s.c2)) (f1 s.c0 (f1 t.c2 t.c2))))) (f2 (f2 (f1 (f2 (f1 t.c1 (f1 (f1 s.c2 s.c2) s.c2)) (f1 s.c1 (f1 (f1 t.c2 t.c2) t.c2))) (f2 (f1 t.c1 (f1 (f1 s.c2 s.c2) s.c2)) (f1 s.c1 (f1 (f1 t.c2 t.c2) t.c2)))) (f1 (f1 (f2 (f1 t.c0 (f1 s.c2 s.c2)) (f1 s.c0 (f1 t.c2 t.c2))) (f2 (f1 t.c0 (f1 s.c2 s.c2)) (f1 s.c0 (f1 t.c2 t.c2)))) (f2 (f1 t.c0 (f1 s.c2 s.c2)) (f1 s.c0 (f1 t.c2 t.c2))))) (f4 (f1 (f1 s.c0 (f1 t.c2 t.c2)) (f1 (f2 (f1 t.c0 (f1 s.c2 s.c2)) (f1 s.c0 (f1 t.c2 t.c2))) (f2 (f1 t.c0 (f1 s.c2 s.c2)) (f1 s.c0 (f1 t.c2 t.c2))))) (f1 (f1 s.c0 (f1 t.c2 t.c2)) (f1 (f2 (f1 t.c0 (f1 s.c2 s.c2)) (f1 s.c0 (f1 t.c2 t.c2))) (f2 (f1 t.c0 (f1 s.c2 s.c2)) (f1 s.c0 (f1 t.c2 t.c2))))))))) (f1 (f1 s.c1 (f1 (f1 t.c2 t.c2) t.c2)) (f1 (f1 (f2 (f1 t.c0 (f1 s.c2 s.c2)) (f1 s.c0 (f1 t.c2 t.c2))) (f2 (f1 t.c0 (f1 s.c2 s.c2)) (f1 s.c0 (f1 t.c2 t.c2)))) (f2 (f1 t.c0 (f1 s.c2 s.c2)) (f1 s.c0 (f1 t.c2 t.c2)))))), (f1 (f1 s.c2 t.c2) (f2 (f1 t.c0 (f1 s.c2 s.c2)) (f1 s.c0 (f1 t.c2 t.c2))))⟩ := by
  unfold plusG2_G
  rw [h, h2, h3]
end
theorem px_of2 (u h r : V2) : r * r - h * h * h - (u * (h * h) + u * (h * h)) = r * r - h * h * h - 2 * (u * (h * h)) := by grind
theorem plus2_rel {s t : Fp6} {p q : Pt V2} (hp : p.on) (hq : q.on) (hs : rel2 s p) (ht : rel2 t q) : rel2 (plusG2 s t) (p.add q) := by
  have hs0 := hs
  have ht0 := ht
  obtain ⟨⟨hx, hy, hz⟩, hj⟩ := hs
  obtain ⟨⟨kx, ky, kz⟩, kj⟩ := ht
  unfold plusG2
  by_cases z1 : m2 s.c2 = 0
  · rw [plusG2_l ((m2_zero hz).2 z1), hj.inf_of z1, inf_add]
    exact ht0
  by_cases z2 : m2 t.c2 = 0
  · rw [plusG2_r ((m2_nonzero hz).2 z1) ((m2_zero kz).2 z2), kj.inf_of z2, add_inf]
    exact hs0
  have n1 := (m2_nonzero hz).2 z1
  have n2 := (m2_nonzero kz).2 z2
  have zz := half_ok2 hz hz
  have ww := half_ok2 kz kz
  have zzz := half_ok2 zz hz
  have www := half_ok2 ww kz
  have hu := half_ok2 hx ww
  have hv := half_ok2 kx zz
  have ha := half_ok2 hy www
  have hb := half_ok2 ky zzz
  have hh := sub_ok2 hv hu
  have hr := sub_ok2 hb ha
  have eh : m2 (subF2 (halfF2 t.c0 (halfF2 s.c2 s.c2)) (halfF2 s.c0 (halfF2 t.c2 t.c2))) = m2 t.c0 * (m2 s.c2 * m2 s.c2) - m2 s.c0 * (m2 t.c2 * m2 t.c2) := by
    rw [m2_sub hv hu, m2_half kx zz, m2_half hx ww, m2_half hz hz, m2_half kz kz]
  have er : m2 (subF2 (halfF2 t.c1 (halfF2 (halfF2 s.c2 s.c2) s.c2)) (halfF2 s.c1 (halfF2 (halfF2 t.c2 t.c2) t.c2))) = m2 t.c1 * (m2 s.c2 * m2 s.c2 * m2 s.c2) - m2 s.c1 * (m2 t.c2 * m2 t.c2 * m2 t.c2) := by
    rw [m2_sub hb ha, m2_half ky zzz, m2_half hy www, m2_half zz hz, m2_half ww kz, m2_half hz hz, m2_half kz kz]
  by_cases h0 : m2 t.c0 * (m2 s.c2 * m2 s.c2) - m2 s.c0 * (m2 t.c2 * m2 t.c2) = 0
  · obtain ⟨c1, c2⟩ := plus_same hp hq hj kj z1 z2 h0
    have n3 := (m2_zero hh).2 (by rw [eh]; exact h0)
    by_cases r0 : m2 t.c1 * (m2 s.c2 * m2 s.c2 * m2 s.c2) - m2 s.c1 * (m2 t.c2 * m2 t.c2 * m2 t.c2) = 0
    · rw [plusG2_tw n1 n2 n3 ((m2_zero hr).2 (by rw [er]; exact r0)), c1 r0]
      exact twice2_rel hp hs0
    · rw [plusG2_no n1 n2 n3 ((m2_nonzero hr).2 (by rw [er]; exact r0)), c2 r0]
      exact rel2_inf
  · rw [plusG2_all n1 n2 ((m2_nonzero hh).2 (by rw [eh]; exact h0))]
    have key := plus_all hp hq hj kj z1 z2 h0
    have h2 := half_ok2 hh hh
    have h3 := half_ok2 h2 hh
    have hw := half_ok2 hu h2
    have hrr := half_ok2 hr hr
    have hw2 := add_ok2 hw hw
    have hrh := sub_ok2 hrr h3
    have hX := sub_ok2 hrh hw2
    have hwx := sub_ok2 hw hX
    have hrw := half_ok2 hr hwx
    have hah := half_ok2 ha h3
    have hst := half_ok2 hz kz
    have eu : m2 (halfF2 s.c0 (halfF2 t.c2 t.c2)) = m2 s.c0 * (m2 t.c2 * m2 t.c2) := by rw [m2_half hx ww, m2_half kz kz]
    have ea : m2 (halfF2 s.c1 (halfF2 (halfF2 t.c2 t.c2) t.c2)) = m2 s.c1 * (m2 t.c2 * m2 t.c2 * m2 t.c2) := by rw [m2_half hy www, m2_half ww kz, m2_half kz kz]
    have e1 := m2_sub hrh hw2
    rw [m2_sub hrr h3, m2_half hr hr, er, m2_half h2 hh, m2_half hh hh, eh, m2_add hw hw, m2_half hu h2, eu, m2_half hh hh, eh, px_of2] at e1
    have e1' : _ = px (m2 s.c0) (m2 s.c1) (m2 s.c2) (m2 t.c0) (m2 t.c1) (m2 t.c2) := e1
    have e2 := m2_sub hrw hah
    rw [m2_half hr hwx, m2_sub hw hX, e1', m2_half hu h2, eu, m2_half hh hh, eh, m2_half ha h3, ea, m2_half h2 hh, m2_half hh hh, eh, er] at e2
    have e3 := m2_half hst hh
    rw [m2_half hz kz, eh] at e3
    refine rel2_mk hX (sub_ok2 hrw hah) (half_ok2 hst hh) ?_
    rw [e1', e2, e3]
    exact key
theorem addG2_G_eq (f0 : Fp6 → Pg2) (f1 : Fp6 → Fp6 → Fp6) (f2 : Pg2 → Fp6) (a b : Pg2) : addG2_G f0 f1 f2 a b = f0 (f1 (f2 a) (f2 b)) := rfl
theorem addG2_eq (a b : Pg2) : addG2 a b = laysG2 (plusG2 (liftG2 a) (liftG2 b)) := by
  unfold addG2
  exact addG2_G_eq laysG2 plusG2 liftG2 a b
theorem add2_pt {a b : Pg2} (ha : a.good) (hb : b.good) : (addG2 a b).good ∧ (addG2 a b).pt = a.pt.add b.pt := by
  rw [addG2_eq]
  exact lays2_rel (add_on ha.2 hb.2) (plus2_rel ha.2 hb.2 (lift2_rel ha) (lift2_rel hb))
theorem neg2_pt {a : Pg2} (ha : a.good) : (negG2 a).good ∧ (negG2 a).pt = a.pt.neg := by
  unfold negG2
  cases hi : a.inf with
  | true =>
    rw [negG2_inf hi, pt2_inf hi]
    exact ⟨ha, rfl⟩
  | false =>
    obtain ⟨hx, hy⟩ := ok_aff2 ha.1 hi
    have ho := neg_on ha.2
    rw [pt2_aff hi] at ho ⊢
    rw [negG2_aff hi]
    exact good2_mk hx (neg_ok2 hy) rfl (v_neg2 hy) ho
theorem rhs2_G_eq (f0 f1 : Fp2 → Fp2 → Fp2) (x : Fp2) : rhsG2_G f0 f1 x = f0 (f1 (f1 x x) x) bFp2 := rfl
theorem rhs2_v {x : Fp2} (hx : x.ok) : (rhsG2 x).ok ∧ (rhsG2 x).v = x.v * x.v * x.v + Crv.b := by
  have hb : bFp2.ok ∧ bFp2.v = Crv.b := bFp2_v
  have h2 := mul_ok2 hx hx
  have h3 := mul_ok2 h2 hx
  unfold rhsG2
  rw [rhs2_G_eq]
  refine ⟨add_ok2 h3 hb.1, ?_⟩
  rw [v_add2 h3 hb.1, v_mul2 h2 hx, v_mul2 hx hx, hb.2]
theorem on2_iff (p : Pg2) : onG2 p = true ↔ p.good := by
  unfold onG2
  cases hi : p.inf with
  | true =>
    rw [onG2_inf hi, pg2Eq_iff]
    constructor
    · intro h; rw [h]; exact good_inf2
    · intro h; exact ok_inf2 h.1 hi
  | false =>
    rw [onG2_aff hi, Bool.and_eq_true, Bool.and_eq_true, may2_iff, may2_iff]
    constructor
    · rintro ⟨⟨hx, hy⟩, h⟩
      obtain ⟨r1, r2⟩ := rhs2_v hx
      rw [fp2Eq_v (mul_ok2 hy hy) r1, v_mul2 hy hy, r2] at h
      exact ⟨.inr ⟨hi, hx, hy⟩, by rw [pt2_aff hi]; exact h⟩
    · intro h
      obtain ⟨hx, hy⟩ := ok_aff2 h.1 hi
      obtain ⟨r1, r2⟩ := rhs2_v hx
      refine ⟨⟨hx, hy⟩, ?_⟩
      rw [fp2Eq_v (mul_ok2 hy hy) r1, v_mul2 hy hy, r2]
      have := h.2
      rw [pt2_aff hi] at this
      exact this
end Go.Proofs.Ytchlamfdofpolaa

set_option linter.unusedSimpArgs false
set_option linter.unusedVariables false
namespace Go.Proofs.Ytchlamfdofpolaa
open Go.RowKit
abbrev ks2 : Kd Fp6 := kRow Fp6
def tmSt2 (e : List UInt64) (x : Fp6) (cs : List Cell) (z : Int) : St := mkSt 31 [(1, inV 0 e), (2, ptrV 1), (4, ptrV 2), (5, ptrV 3), (6, vI z)] [inHE eU64 e, own 97 (Row.cs x), own 97 (zeros 36), own 97 cs]
def tTm2 (tw : Fp6 → Fp6) (pl : Fp6 → Fp6 → Fp6) : Table := [(99, K1 ks2.arg ks2.rs.res tw), (82, K2 ks2.arg ks2.arg ks2.rs.res pl)]
theorem tm2_front (T : Table) (x : Fp6) (e : List UInt64) : stageT (En T) 100 ((flat (codeOf Try.f88)).take 1) (startSt Try.f88 [.one (ks2.av x), iL.av 0 e] [inHE eU64 e]) [1, 2, 4] [0, 1, 2] =
    .leaf (mkSt 31 [(1, inV 0 e), (2, ptrV 1), (4, ptrV 2)] [inHE eU64 e, own 97 (Row.cs x), own 97 (zeros 36)]) := by kernel_rfl
theorem tm2_start (tw : Fp6 → Fp6) (pl : Fp6 → Fp6 → Fp6) (x : Fp6) (e : List UInt64) : stageT (En (tTm2 tw pl)) 100 ((flat (scopeOf Try.f88)).take 3) (mkSt 31 [(1, inV 0 e), (2, ptrV 1), (4, ptrV 2)] [inHE eU64 e, own 97 (Row.cs x), own 97 (zeros 36)]) [1, 2, 4, 5, 6] [0, 1, 2, 3] =
    .vc (0 + e.length * 1 ≤ (eU64.body e).cells.length ∧ 0 < 1) (.leaf (tmSt2 e x (zeros 36) (IntKind.i64.wrap (64 * e.length)))) := by kernel_rfl
theorem tm2_iter (tw : Fp6 → Fp6) (pl : Fp6 → Fp6 → Fp6) (x o : Fp6) (e : List UInt64) (z : Int) : iterT (En (tTm2 tw pl)) ks2.rs.out 100 Try.f88 ((flat (scopeOf Try.f88)).drop 3) (tmSt2 e x (Row.cs o) z) [1, 2, 4, 5, 6] [0, 1, 2, 3] =
    .br (decide (IntKind.i64.wrap (z - 1) < 0)) (.leaf (.inr (some (o, .t))))
      (.vc ((0 ≤ quoZ z ∧ quoZ z < e.length) ∧ 0 + e.length * 1 ≤ (eU64.body e).cells.length ∧ 0 < 1) (.vc (0 + (quoZ z).toNat * 1 < e.length)
        (.br (bitZ e z) (.leaf (.inl (.goto 0, tmSt2 e x (Row.cs (pl (tw o) x)) (IntKind.i64.wrap (z - 1))))) (.leaf (.inl (.goto 0, tmSt2 e x (Row.cs (tw o)) (IntKind.i64.wrap (z - 1)))))))) := by kernel_rfl
theorem tm2_first (tw : Fp6 → Fp6) (pl : Fp6 → Fp6 → Fp6) (x : Fp6) (e : List UInt64) (z : Int) : iterT (En (tTm2 tw pl)) ks2.rs.out 100 Try.f88 ((flat (scopeOf Try.f88)).drop 3) (tmSt2 e x (zeros 36) z) [1, 2, 4, 5, 6] [0, 1, 2, 3] =
    .br (decide (IntKind.i64.wrap (z - 1) < 0)) (.leaf (.inr (some (zeroFp6, .t))))
      (.vc ((0 ≤ quoZ z ∧ quoZ z < e.length) ∧ 0 + e.length * 1 ≤ (eU64.body e).cells.length ∧ 0 < 1) (.vc (0 + (quoZ z).toNat * 1 < e.length)
        (.br (bitZ e z) (.leaf (.inl (.goto 0, tmSt2 e x (Row.cs (pl (tw zeroFp6) x)) (IntKind.i64.wrap (z - 1))))) (.leaf (.inl (.goto 0, tmSt2 e x (Row.cs (tw zeroFp6)) (IntKind.i64.wrap (z - 1)))))))) := by kernel_rfl
def outC2 (b : Bool) (o : Fp6) : List Cell := match b with
  | true => zeros 36
  | false => Row.cs o
def timesG2 (x : Fp6) (e : List UInt64) : Fp6 := dblG twiceG2 (fun o => plusG2 o x) e (64 * e.length) zeroFp6
abbrev Tm2Ok (x : Fp6) (e : List UInt64) : Type := { q : Bool × Int × Fp6 // 0 ≤ q.2.1 ∧ q.2.1 ≤ 64 * e.length ∧ (q.1 = true → q.2.2 = zeroFp6) ∧ dblG twiceG2 (fun o => plusG2 o x) e q.2.1.toNat q.2.2 = timesG2 x e }
def tm2I (x : Fp6) (e : List UInt64) (q : Tm2Ok x e) : St := tmSt2 e x (outC2 q.1.1 q.1.2.2) q.1.2.1
theorem tm2_iterB (x : Fp6) (e : List UInt64) (b : Bool) (o : Fp6) (hb : b = true → o = zeroFp6) (z : Int) : iterT (En (tTm2 twiceG2 plusG2)) ks2.rs.out 100 Try.f88 ((flat (scopeOf Try.f88)).drop 3) (tmSt2 e x (outC2 b o) z) [1, 2, 4, 5, 6] [0, 1, 2, 3] =
    .br (decide (IntKind.i64.wrap (z - 1) < 0)) (.leaf (.inr (some (o, .t))))
      (.vc ((0 ≤ quoZ z ∧ quoZ z < e.length) ∧ 0 + e.length * 1 ≤ (eU64.body e).cells.length ∧ 0 < 1) (.vc (0 + (quoZ z).toNat * 1 < e.length)
        (.br (bitZ e z) (.leaf (.inl (.goto 0, tmSt2 e x (Row.cs (plusG2 (twiceG2 o) x)) (IntKind.i64.wrap (z - 1))))) (.leaf (.inl (.goto 0, tmSt2 e x (Row.cs (twiceG2 o)) (IntKind.i64.wrap (z - 1)))))))) := by
  cases b with
  | true =>
    rw [hb rfl]
    exact tm2_first twiceG2 plusG2 x e z
  | false => exact tm2_iter twiceG2 plusG2 x o e z
theorem timesG2_ok : CallOk Try.prog 88 (K2 ks2.arg aL ks2.rs.res timesG2) :=
  Go.Proofs.Ytchlamfdofpolaa.G2 (E := En (tTm2 twiceG2 plusG2)) Try.func88 (c := codeOf Try.f88) (by kernel_rfl) (bodied Try.func88 (by kernel_rfl) (by kernel_rfl)) ks2.inp iL ks2.rs.out timesG2 fun x e _ he => by
    have hE : EnvOk (En (tTm2 twiceG2 plusG2)) := En_ok (.cons twiceG2_ok (.cons plusG2_ok .nil))
    have he : e.length < 1125899906842624 := he
    have hw : IntKind.i64.wrap (64 * (e.length : Int)) = 64 * (e.length : Int) := IntWalk.i64_in _ (by omega)
    refine DoesL.stageE hE 100 1 [1, 2, 4] [0, 1, 2] (tm2_front _ x e) ?_
    refine DoesL.scopeFn (body := scopeOf Try.f88) (rest := restOf Try.f88) (tail := []) (l := 0) hE (by kernel_rfl) (by kernel_rfl) 100 3 (by kernel_rfl) [1, 2, 4, 5, 6] [0, 1, 2, 3] (tm2I x e) (fun q => q.1.2.1.toNat)
      ⟨(true, 64 * (e.length : Int), zeroFp6), by simp only []; omega, by simp only []; omega, fun _ => rfl, by rw [show ((true, 64 * (e.length : Int), zeroFp6) : Bool × Int × Fp6).2.1.toNat = 64 * e.length by simp only []; omega]; simp only [timesG2]⟩
      (tm2_start twiceG2 plusG2 x e) ⟨⟨by rw [cells_len]; omega, by decide⟩, fun _ => by rw [hw]; exact Tree.sat_leaf (by simp only [tm2I, outC2])⟩ fun q => ?_
    obtain ⟨⟨b, z, o⟩, h0, h1, hb, h2⟩ := q
    simp only [] at h0 h1 h2 hb
    have hz : IntKind.i64.wrap (z - 1) = z - 1 := IntWalk.i64_in _ (by omega)
    refine DoesL.iter hE 100 [1, 2, 4, 5, 6] [0, 1, 2, 3] (tm2_iterB x e b o hb z) ?_
    rw [hz]
    refine ⟨fun h => ?_, fun h => ?_⟩
    · simp only [decide_eq_true_eq] at h
      obtain rfl : z = 0 := by omega
      exact ⟨.t, by rw [← h2]; rfl, trivial⟩
    · simp only [decide_eq_false_iff_not] at h
      obtain ⟨n, rfl⟩ : ∃ n : Nat, z = (n : Int) + 1 := ⟨(z - 1).toNat, by omega⟩
      rw [quoZ_nat n (by omega), bitZ_nat e n (by omega)]
      rw [show ((n : Int) + 1).toNat = n + 1 by omega] at h2
      simp only [dblG] at h2
      refine ⟨⟨⟨by omega, by omega⟩, by rw [cells_len]; omega, by decide⟩, fun _ => ⟨by omega, fun _ => ⟨fun h3 => ?_, fun h3 => ?_⟩⟩⟩
      all_goals
        have hn : ((n : Int) + 1 - 1).toNat = n := by omega
        rw [h3] at h2
        simp only [] at h2
      · refine ⟨rfl, ⟨(false, (n : Int) + 1 - 1, plusG2 (twiceG2 o) x), ?_, ?_, ?_, ?_⟩, ?_, by simp only [tm2I, outC2]⟩
        · show 0 ≤ (n : Int) + 1 - 1; omega
        · show (n : Int) + 1 - 1 ≤ 64 * e.length; omega
        · intro h; cases h
        · simpa only [hn] using h2
        · show ((n : Int) + 1 - 1).toNat < ((n : Int) + 1).toNat; omega
      · refine ⟨rfl, ⟨(false, (n : Int) + 1 - 1, twiceG2 o), ?_, ?_, ?_, ?_⟩, ?_, by simp only [tm2I, outC2]⟩
        · show 0 ≤ (n : Int) + 1 - 1; omega
        · show (n : Int) + 1 - 1 ≤ 64 * e.length; omega
        · intro h; cases h
        · simpa only [hn] using h2
        · show ((n : Int) + 1 - 1).toNat < ((n : Int) + 1).toNat; omega
def mulG2_G (f0 : Fp6 → Pg2) (f1 : Fp6 → List UInt64 → Fp6) (f2 : Pg2 → Fp6) (a : Pg2) (k : Fr) : Pg2 := (f0 (f1 (f2 a) [k.l0, k.l1, k.l2, k.l3]))
def mulG2_T (f0 : Fp6 → Pg2) (f1 : Fp6 → List UInt64 → Fp6) (f2 : Pg2 → Fp6) (a : Pg2) (k : Fr) : Tree (Option (Pg2)) :=
  (.leaf (some (f0 (f1 (f2 a) [k.l0, k.l1, k.l2, k.l3]))))
theorem mulG2_run (f0 : Fp6 → Pg2) (f1 : Fp6 → List UInt64 → Fp6) (f2 : Pg2 → Fp6) (a : Pg2) (k : Fr) : plainRun (En [(81, K1 (kRow Fp6).arg (kRow Pg2).rs.res f0), (88, K2 ks2.arg aL ks2.rs.res f1), (83, K1 (kRow Pg2).arg (kRow Fp6).rs.res f2)]) (kRow Pg2).rs 300 Try.f42 [.one ((kRow Pg2).av a), .one ((kRow Fr).av k)] = mulG2_T f0 f1 f2 a k := by kernel_rfl
theorem mulG2_sat (f0 : Fp6 → Pg2) (f1 : Fp6 → List UInt64 → Fp6) (f2 : Pg2 → Fp6) (a : Pg2) (k : Fr) : (mulG2_T f0 f1 f2 a k).sat fun q => q = some (mulG2_G f0 f1 f2 a k) := (show some _ = some _ from rfl)
def mulG2 (a : Pg2) (k : Fr) : Pg2 := mulG2_G laysG2 timesG2 liftG2 a k
theorem mulG2_ok : CallOk Try.prog 42 (K2 (kRow Pg2).arg (kRow Fr).arg (kRow Pg2).rs.res mulG2) :=
  P2 (En_ok (.cons laysG2_ok (.cons timesG2_ok (.cons liftG2_ok .nil)))) Try.func42 (bodied Try.func42 (by kernel_rfl) (by kernel_rfl)) 300 (kRow Pg2) (kRow Fr) (kRow Pg2).rs mulG2 (mulG2_run laysG2 timesG2 liftG2) (mulG2_sat laysG2 timesG2 liftG2)
def inG2_G (f0 : Pg2 → Bool) (f1 : Fp2 → Bool) (f2 : Fp6 → List UInt64 → Fp6) (f3 : Pg2 → Fp6) (f4 : Fr) (a : Pg2) : Bool := (match (f0 a) with | true => ((f1 (f2 (f3 a) [f4.l0, f4.l1, f4.l2, f4.l3]).c2)) | false => ((false)))
def inG2_T (f0 : Pg2 → Bool) (f1 : Fp2 → Bool) (f2 : Fp6 → List UInt64 → Fp6) (f3 : Pg2 → Fp6) (f4 : Fr) (a : Pg2) : Tree (Option (Bool)) :=
  (.br (f0 a)
    (.leaf (some ((f1 (f2 (f3 a) [f4.l0, f4.l1, f4.l2, f4.l3]).c2))))
    (.leaf (some ((false)))))
theorem inG2_run (f0 : Pg2 → Bool) (f1 : Fp2 → Bool) (f2 : Fp6 → List UInt64 → Fp6) (f3 : Pg2 → Fp6) (f4 : Fr) (a : Pg2) : plainRun (Ens [(45, K1 (kRow Pg2).arg kBool.rs.res f0), (97, K1 (kRow Fp2).arg kBool.rs.res f1), (88, K2 ks2.arg aL ks2.rs.res f2), (83, K1 (kRow Pg2).arg (kRow Fp6).rs.res f3), (74, K0 (rS4 24) f4)] [74]) kBool.rs 300 Try.f50 [.one ((kRow Pg2).av a)] = inG2_T f0 f1 f2 f3 f4 a := by kernel_rfl
theorem inG2_sat (f0 : Pg2 → Bool) (f1 : Fp2 → Bool) (f2 : Fp6 → List UInt64 → Fp6) (f3 : Pg2 → Fp6) (f4 : Fr) (a : Pg2) : (inG2_T f0 f1 f2 f3 f4 a).sat fun q => q = some (inG2_G f0 f1 f2 f3 f4 a) := ⟨fun h0 => (show some _ = some _ from congrArg some (by unfold inG2_G; rw [h0])), fun h0 => (show some _ = some _ from congrArg some (by unfold inG2_G; rw [h0]))⟩
def inG2 (a : Pg2) : Bool := inG2_G onG2 zeroG2 timesG2 liftG2 rLimbs a
theorem inG2_ok : CallOk Try.prog 50 (K1 (kRow Pg2).arg kBool.rs.res inG2) :=
  P1 (Ens_ok (.cons onG2_ok (.cons zeroG2_ok (.cons timesG2_ok (.cons liftG2_ok (.cons R4_ok .nil)))))) Try.func50 (bodied Try.func50 (by kernel_rfl) (by kernel_rfl)) 300 (kRow Pg2) kBool.rs inG2 (inG2_run onG2 zeroG2 timesG2 liftG2 rLimbs) (inG2_sat onG2 zeroG2 timesG2 liftG2 rLimbs)
end Go.Proofs.Ytchlamfdofpolaa

set_option linter.unusedSimpArgs false
set_option linter.unusedVariables false
namespace Go.Proofs.Ytchlamfdofpolaa
open Go.RowKit
abbrev kp6 : Kd Fp6 := kRow Fp6
noncomputable abbrev tmRC : List Code := flat (codeOf Try.f64)
noncomputable abbrev tmRB : Code := loopAt Try.f64 0
abbrev Kadd5 (F : Fp6 → Fp6 → Bool → Fp6) : Contract := K3 kp6.arg kp6.arg kBool.arg kp6.rs.res F
noncomputable abbrev tmRE (o : Fp6) (aF : Fp6 → Fp6 → Bool → Fp6) (bF : List UInt64 → Nat → Bool) : Env := En [(110, K0 kp6.rs.res o), (59, Kadd5 aF), (113, Kbit bF)]
def tmRSt (e : List UInt64) (b : Bool) (p x : Fp6) (z : Int) : St := mkSt 30 [(1, inV 0 e), (2, .one (kBool.av b)), (3, ptrV 1), (6, ptrV 2), (7, ptrV 3), (8, vI z)] [inHE eU64 e, own 77 (Row.cs p), own 77 (zeros 36), own 77 (Row.cs x)]
theorem tmR_start (o : Fp6) (aF : Fp6 → Fp6 → Bool → Fp6) (bF : List UInt64 → Nat → Bool) (p : Fp6) (e : List UInt64) (b : Bool) : stageT (tmRE o aF bF) 100 (tmRC.take 3) (startSt Try.f64 [.one (kp6.av p), iL.av 0 e, .one (kBool.av b)] [inHE eU64 e]) [1, 2, 3, 6, 7, 8] [0, 1, 2, 3] =
  (.vc (0 + e.length * 1 ≤ (List.map EK.u64.cell e).length ∧ 0 < 1)
    (.leaf (mkSt 30 [(1, .one (.c (.slc 0 0 (e.length) 1 (.of 0) false))), (2, .one (.c (.bool (b)))), (3, .one (.c (.ptr 1 0))), (6, .one (.c (.ptr 2 0))), (7, .one (.c (.ptr 3 0))), (8, .one (.c (.int .i64 (IntKind.i64.wrap (IntKind.i64.wrap (64 * (↑e.length : Int)) - 1)))))] [.live ⟨false, 0, 1, (.elts .u64 (e : List UInt64)), false⟩, .live ⟨true, 77, 0, (.row (Row.cs (p : Fp6))), false⟩, .live ⟨true, 77, 0, (.row [(.lit .u64 0), (.lit .u64 0), (.lit .u64 0), (.lit .u64 0), (.lit .u64 0), (.lit .u64 0), (.lit .u64 0), (.lit .u64 0), (.lit .u64 0), (.lit .u64 0), (.lit .u64 0), (.lit .u64 0), (.lit .u64 0), (.lit .u64 0), (.lit .u64 0), (.lit .u64 0), (.lit .u64 0), (.lit .u64 0), (.lit .u64 0), (.lit .u64 0), (.lit .u64 0), (.lit .u64 0), (.lit .u64 0), (.lit .u64 0), (.lit .u64 0), (.lit .u64 0), (.lit .u64 0), (.lit .u64 0), (.lit .u64 0), (.lit .u64 0), (.lit .u64 0), (.lit .u64 0), (.lit .u64 0), (.lit .u64 0), (.lit .u64 0), (.lit .u64 0)]), false⟩, .live ⟨true, 77, 0, (.row (Row.cs (o : Fp6))), false⟩]))) := by kernel_rfl
theorem tmR_round (o : Fp6) (aF : Fp6 → Fp6 → Bool → Fp6) (bF : List UInt64 → Nat → Bool) (p x : Fp6) (e : List UInt64) (b : Bool) (z : Int) : roundT (tmRE o aF bF) 100 tmRB (tmRSt e b p x z) (same [1, 2, 3, 6, 7, 8] [0, 1, 2, 3]) =
  (.br (decide (z ≥ 0))
    (.vc (((0 + e.length ≤ e.length ∧ e.length < 1125899906842624 ∧ 0 = 0 ∧ 1 = 1) ∧ 0 ≤ z) ∧ bitIn (List.take e.length (List.drop 0 e)) z.toNat)
      (.br (bF (List.take e.length (List.drop 0 e)) z.toNat)
        (.leaf ((.normal, mkSt 30 [(1, .one (.c (.slc 0 0 (e.length) 1 (.of 0) false))), (2, .one (.c (.bool (b)))), (3, .one (.c (.ptr 1 0))), (6, .one (.c (.ptr 2 0))), (7, .one (.c (.ptr 3 0))), (8, .one (.c (.int .i64 (IntKind.i64.wrap (z - 1)))))] [.live ⟨false, 0, 1, (.elts .u64 (e : List UInt64)), false⟩, .live ⟨true, 77, 0, (.row (Row.cs (p : Fp6))), false⟩, .live ⟨true, 77, 0, (.row [(.lit .u64 0), (.lit .u64 0), (.lit .u64 0), (.lit .u64 0), (.lit .u64 0), (.lit .u64 0), (.lit .u64 0), (.lit .u64 0), (.lit .u64 0), (.lit .u64 0), (.lit .u64 0), (.lit .u64 0), (.lit .u64 0), (.lit .u64 0), (.lit .u64 0), (.lit .u64 0), (.lit .u64 0), (.lit .u64 0), (.lit .u64 0), (.lit .u64 0), (.lit .u64 0), (.lit .u64 0), (.lit .u64 0), (.lit .u64 0), (.lit .u64 0), (.lit .u64 0), (.lit .u64 0), (.lit .u64 0), (.lit .u64 0), (.lit .u64 0), (.lit .u64 0), (.lit .u64 0), (.lit .u64 0), (.lit .u64 0), (.lit .u64 0), (.lit .u64 0)]), false⟩, .live ⟨true, 77, 0, (.row (Row.cs (aF (aF x x b) p b : Fp6))), false⟩])))
        (.leaf ((.normal, mkSt 30 [(1, .one (.c (.slc 0 0 (e.length) 1 (.of 0) false))), (2, .one (.c (.bool (b)))), (3, .one (.c (.ptr 1 0))), (6, .one (.c (.ptr 2 0))), (7, .one (.c (.ptr 3 0))), (8, .one (.c (.int .i64 (IntKind.i64.wrap (z - 1)))))] [.live ⟨false, 0, 1, (.elts .u64 (e : List UInt64)), false⟩, .live ⟨true, 77, 0, (.row (Row.cs (p : Fp6))), false⟩, .live ⟨true, 77, 0, (.row [(.lit .u64 0), (.lit .u64 0), (.lit .u64 0), (.lit .u64 0), (.lit .u64 0), (.lit .u64 0), (.lit .u64 0), (.lit .u64 0), (.lit .u64 0), (.lit .u64 0), (.lit .u64 0), (.lit .u64 0), (.lit .u64 0), (.lit .u64 0), (.lit .u64 0), (.lit .u64 0), (.lit .u64 0), (.lit .u64 0), (.lit .u64 0), (.lit .u64 0), (.lit .u64 0), (.lit .u64 0), (.lit .u64 0), (.lit .u64 0), (.lit .u64 0), (.lit .u64 0), (.lit .u64 0), (.lit .u64 0), (.lit .u64 0), (.lit .u64 0), (.lit .u64 0), (.lit .u64 0), (.lit .u64 0), (.lit .u64 0), (.lit .u64 0), (.lit .u64 0)]), false⟩, .live ⟨true, 77, 0, (.row (Row.cs (aF x x b : Fp6))), false⟩])))))
    (.leaf ((.exit 0, mkSt 30 [(1, .one (.c (.slc 0 0 (e.length) 1 (.of 0) false))), (2, .one (.c (.bool (b)))), (3, .one (.c (.ptr 1 0))), (6, .one (.c (.ptr 2 0))), (7, .one (.c (.ptr 3 0))), (8, .one (.c (.int .i64 (z))))] [.live ⟨false, 0, 1, (.elts .u64 (e : List UInt64)), false⟩, .live ⟨true, 77, 0, (.row (Row.cs (p : Fp6))), false⟩, .live ⟨true, 77, 0, (.row [(.lit .u64 0), (.lit .u64 0), (.lit .u64 0), (.lit .u64 0), (.lit .u64 0), (.lit .u64 0), (.lit .u64 0), (.lit .u64 0), (.lit .u64 0), (.lit .u64 0), (.lit .u64 0), (.lit .u64 0), (.lit .u64 0), (.lit .u64 0), (.lit .u64 0), (.lit .u64 0), (.lit .u64 0), (.lit .u64 0), (.lit .u64 0), (.lit .u64 0), (.lit .u64 0), (.lit .u64 0), (.lit .u64 0), (.lit .u64 0), (.lit .u64 0), (.lit .u64 0), (.lit .u64 0), (.lit .u64 0), (.lit .u64 0), (.lit .u64 0), (.lit .u64 0), (.lit .u64 0), (.lit .u64 0), (.lit .u64 0), (.lit .u64 0), (.lit .u64 0)]), false⟩, .live ⟨true, 77, 0, (.row (Row.cs (x : Fp6))), false⟩])))) := by kernel_rfl
theorem tmR_end (o : Fp6) (aF : Fp6 → Fp6 → Bool → Fp6) (bF : List UInt64 → Nat → Bool) (p x : Fp6) (e : List UInt64) (b : Bool) (z : Int) : endT (tmRE o aF bF) kp6.rs.out 100 Try.f64 (tmRC.drop 4) (tmRSt e b p x z) =
  (.leaf (some ((x, .t)))) := by kernel_rfl
def timesR (p : Fp6) (e : List UInt64) (b : Bool) : Fp6 := dblG (fun x => addS5 x x b) (fun x => addS5 x p b) e (64 * e.length) none5
abbrev TmROk (p : Fp6) (e : List UInt64) (b : Bool) : Type := { q : Int × Fp6 // -1 ≤ q.1 ∧ q.1 < 64 * e.length ∧ dblG (fun x => addS5 x x b) (fun x => addS5 x p b) e (q.1 + 1).toNat q.2 = timesR p e b }
theorem timesR_ok : CallOk Try.prog 64 (K3 kp6.arg aL kBool.arg kp6.rs.res timesR) :=
  Go.Proofs.Ytchlamfdofpolaa.G3 (E := tmRE none5 addS5 bitAt) Try.func64 (c := codeOf Try.f64) (by kernel_rfl) (bodied Try.func64 (by kernel_rfl) (by kernel_rfl)) kp6.inp iL kBool.inp kp6.rs.out timesR fun p e b _ he _ => by
    have hE : EnvOk (tmRE none5 addS5 bitAt) := En_ok (.cons none5_ok (.cons addS5_ok (.cons bit5_ok .nil)))
    have he : e.length < 1125899906842624 := he
    refine DoesL.stageE hE 100 3 _ _ (tmR_start none5 addS5 bitAt p e b) ⟨vcLen e, fun _ => ?_⟩
    have hw : IntKind.i64.wrap (IntKind.i64.wrap (64 * (e.length : Int)) - 1) = 64 * (e.length : Int) - 1 := by rw [IntWalk.i64_in (64 * (e.length : Int)) (by omega), IntWalk.i64_in _ (by omega)]
    rw [hw]
    refine DoesL.blockLoop (B := tmRB) (rest := tmRC.drop 4) (id := 0) (by kernel_rfl) (fun q : TmROk p e b => tmRSt e b p q.1.2 q.1.1) (fun q => (q.1.1 + 1).toNat) ⟨(64 * (e.length : Int) - 1, none5), by simp only []; omega, by simp only []; omega, by
      simp only []
      rw [show (64 * (e.length : Int) - 1 + 1).toNat = 64 * e.length by omega]
      simp only [timesR]⟩ fun q => ?_
    obtain ⟨⟨z, x⟩, h0, h1, h2⟩ := q
    simp only [] at h0 h1 h2
    show Does _ _ (tmRSt e b p x z) _
    refine Does.round hE 100 _ (tmR_round none5 addS5 bitAt p x e b z) ⟨fun h => ?_, fun h => ?_⟩
    · simp only [ge_iff_le, decide_eq_true_eq] at h
      obtain ⟨n, rfl⟩ : ∃ n : Nat, z = (n : Int) := ⟨z.toNat, by omega⟩
      rw [wrap_pred n (by omega), whole, Int.toNat_natCast]
      rw [show ((n : Int) + 1).toNat = n + 1 by omega] at h2
      simp only [dblG] at h2
      refine ⟨⟨⟨okL' he, by omega⟩, by show n < 64 * e.length; omega⟩, fun _ => ⟨fun h3 => ?_, fun h3 => ?_⟩⟩
      all_goals
        have hn : ((n : Int) - 1 + 1).toNat = n := by omega
        rw [h3] at h2
        simp only [] at h2
      · refine ⟨⟨((n : Int) - 1, addS5 (addS5 x x b) p b), ?_, ?_, ?_⟩, ?_, ?_⟩
        · show -1 ≤ (n : Int) - 1; omega
        · show (n : Int) - 1 < 64 * e.length; omega
        · simpa only [hn] using h2
        · show ((n : Int) - 1 + 1).toNat < ((n : Int) + 1).toNat; omega
        · kernel_rfl
      · refine ⟨⟨((n : Int) - 1, addS5 x x b), ?_, ?_, ?_⟩, ?_, ?_⟩
        · show -1 ≤ (n : Int) - 1; omega
        · show (n : Int) - 1 < 64 * e.length; omega
        · simpa only [hn] using h2
        · show ((n : Int) - 1 + 1).toNat < ((n : Int) + 1).toNat; omega
        · kernel_rfl
    · simp only [ge_iff_le, decide_eq_false_iff_not] at h
      obtain rfl : z = -1 := by omega
      exact ⟨rfl, DoesL.ends hE 100 (tmR_end none5 addS5 bitAt p x e b (-1)) (reads_t (by
        rw [show ((-1 : Int) + 1).toNat = 0 from rfl] at h2
        simp only [dblG] at h2
        exact h2))⟩
def times2R_G (f0 : Fp6 → Pg2) (f1 : Fp6 → List UInt64 → Bool → Fp6) (f2 : Pg2 → Fp6) (a : Pg2) (k : Fr) : Pg2 := (f0 (f1 (f2 a) [k.l0, k.l1, k.l2, k.l3] false))
def times2R_T (f0 : Fp6 → Pg2) (f1 : Fp6 → List UInt64 → Bool → Fp6) (f2 : Pg2 → Fp6) (a : Pg2) (k : Fr) : Tree (Option (Pg2)) :=
  (.leaf (some (f0 (f1 (f2 a) [k.l0, k.l1, k.l2, k.l3] false))))
theorem times2R_run (f0 : Fp6 → Pg2) (f1 : Fp6 → List UInt64 → Bool → Fp6) (f2 : Pg2 → Fp6) (a : Pg2) (k : Fr) : plainRun (En [(84, K1 (kRow Fp6).arg (kRow Pg2).rs.res f0), (64, K3 kp6.arg aL kBool.arg kp6.rs.res f1), (85, K1 (kRow Pg2).arg (kRow Fp6).rs.res f2)]) (kRow Pg2).rs 300 Try.f43 [.one ((kRow Pg2).av a), .one ((kRow Fr).av k)] = times2R_T f0 f1 f2 a k := by kernel_rfl
theorem times2R_sat (f0 : Fp6 → Pg2) (f1 : Fp6 → List UInt64 → Bool → Fp6) (f2 : Pg2 → Fp6) (a : Pg2) (k : Fr) : (times2R_T f0 f1 f2 a k).sat fun q => q = some (times2R_G f0 f1 f2 a k) := (show some _ = some _ from rfl)
def times2R (a : Pg2) (k : Fr) : Pg2 := times2R_G to2R timesR of2R a k
theorem times2R_ok : CallOk Try.prog 43 (K2 (kRow Pg2).arg (kRow Fr).arg (kRow Pg2).rs.res times2R) :=
  P2 (En_ok (.cons to2R_ok (.cons timesR_ok (.cons of2R_ok .nil)))) Try.func43 (bodied Try.func43 (by kernel_rfl) (by kernel_rfl)) 300 (kRow Pg2) (kRow Fr) (kRow Pg2).rs times2R (times2R_run to2R timesR of2R) (times2R_sat to2R timesR of2R)
end Go.Proofs.Ytchlamfdofpolaa

set_option linter.unusedSimpArgs false
set_option linter.unusedVariables false
namespace Go.Proofs.Ytchlamfdofpolaa
def qN : Nat := 0x73eda753299d7d483339d80809a1d80553bda402fffe5bfeffffffff00000001
def r4N : Nat := 0x10000000000000000000000000000000000000000000000000000000000000000
def Fr.nat (a : Fr) : Nat := a.l0.toNat + W64 * (a.l1.toNat + W64 * (a.l2.toNat + W64 * (a.l3.toNat)))
theorem Fr.nat_lt (a : Fr) : a.nat < r4N := by
  have h0 := a.l0.toNat_lt
  have h1 := a.l1.toNat_lt
  have h2 := a.l2.toNat_lt
  have h3 := a.l3.toNat_lt
  unfold Fr.nat r4N W64
  omega
theorem Fr.nat_inj {a b : Fr} (h : a.nat = b.nat) : a = b := by
  have h0 := a.l0.toNat_lt
  have h1 := a.l1.toNat_lt
  have h2 := a.l2.toNat_lt
  have h3 := a.l3.toNat_lt
  have k0 := b.l0.toNat_lt
  have k1 := b.l1.toNat_lt
  have k2 := b.l2.toNat_lt
  have k3 := b.l3.toNat_lt
  unfold Fr.nat W64 at h
  have e0 : a.l0 = b.l0 := UInt64.toNat.inj (by omega)
  have e1 : a.l1 = b.l1 := UInt64.toNat.inj (by omega)
  have e2 : a.l2 = b.l2 := UInt64.toNat.inj (by omega)
  have e3 : a.l3 = b.l3 := UInt64.toNat.inj (by omega)
  cases a; cases b
  simp only [] at e0 e1 e2 e3
  subst e0 e1 e2 e3
  rfl
theorem rLimbs_nat : rLimbs.nat = qN := by decide +kernel
theorem add4T_nat (a b : Fr) : (add4T a b).1.nat + r4N * (add4T a b).2.toNat = a.nat + b.nat := by
  unfold add4T
  simp only []
  have s0 := add_step a.l0 b.l0 false
  generalize addC a.l0 b.l0 false = c0 at *
  have s1 := add_step a.l1 b.l1 c0
  generalize addC a.l1 b.l1 c0 = c1 at *
  have s2 := add_step a.l2 b.l2 c1
  generalize addC a.l2 b.l2 c1 = c2 at *
  have s3 := add_step a.l3 b.l3 c2
  generalize addC a.l3 b.l3 c2 = c3 at *
  unfold Fr.nat r4N W64 at *
  simp only [Bool.toNat_false] at *
  omega
theorem sub4T_nat (a b : Fr) : (sub4T a b).1.nat + b.nat = a.nat + r4N * (sub4T a b).2.toNat := by
  unfold sub4T
  simp only []
  have s0 := sub_step a.l0 b.l0 false
  generalize subB a.l0 b.l0 false = c0 at *
  have s1 := sub_step a.l1 b.l1 c0
  generalize subB a.l1 b.l1 c0 = c1 at *
  have s2 := sub_step a.l2 b.l2 c1
  generalize subB a.l2 b.l2 c1 = c2 at *
  have s3 := sub_step a.l3 b.l3 c2
  generalize subB a.l3 b.l3 c2 = c3 at *
  unfold Fr.nat r4N W64 at *
  simp only [Bool.toNat_false] at *
  omega
theorem below4F_nat (a m : Fr) : below4F a m = decide (a.nat < m.nat) := by
  have h0 := a.l0.toNat_lt
  have k0 := m.l0.toNat_lt
  have h1 := a.l1.toNat_lt
  have k1 := m.l1.toNat_lt
  have h2 := a.l2.toNat_lt
  have k2 := m.l2.toNat_lt
  have same : ∀ {x y : UInt64}, (x != y) = false → x.toNat = y.toNat := fun h => by
    simp only [bne_eq_false_iff_eq] at h
    rw [h]
  unfold below4F
  cases e3 : a.l3 != m.l3 with
  | true =>
    have := u64_ne.1 e3
    refine decide_eq_decide.2 ?_
    rw [UInt64.lt_iff_toNat_lt]
    unfold Fr.nat W64
    omega
  | false =>
    have e3 := same e3
    simp only []
    cases e2 : a.l2 != m.l2 with
    | true =>
      have := u64_ne.1 e2
      refine decide_eq_decide.2 ?_
      rw [UInt64.lt_iff_toNat_lt]
      unfold Fr.nat W64
      omega
    | false =>
      have e2 := same e2
      simp only []
      cases e1 : a.l1 != m.l1 with
      | true =>
        have := u64_ne.1 e1
        refine decide_eq_decide.2 ?_
        rw [UInt64.lt_iff_toNat_lt]
        unfold Fr.nat W64
        omega
      | false =>
        have e1 := same e1
        simp only []
        cases e0 : a.l0 != m.l0 with
        | true =>
          have := u64_ne.1 e0
          refine decide_eq_decide.2 ?_
          rw [UInt64.lt_iff_toNat_lt]
          unfold Fr.nat W64
          omega
        | false =>
          have e0 := same e0
          refine (decide_eq_false ?_).symm
          unfold Fr.nat W64
          omega
theorem mayRF_nat (a : Fr) : mayRF a = decide (a.nat < qN) := by
  rw [show mayRF a = below4F a rLimbs from rfl, below4F_nat, rLimbs_nat]
theorem borrow4_iff (a b : Fr) : (sub4T a b).2 = decide (a.nat < b.nat) := by
  have h := sub4T_nat a b
  have h1 := (sub4T a b).1.nat_lt
  have hb := b.nat_lt
  cases e : (sub4T a b).2 with
  | true =>
    rw [e, Bool.toNat_true, Nat.mul_one] at h
    exact (decide_eq_true (by omega)).symm
  | false =>
    rw [e, Bool.toNat_false, Nat.mul_zero] at h
    exact (decide_eq_false (by omega)).symm
theorem qN_pos : 0 < qN := by decide +kernel
theorem reduce4 (t : Fr) (c : Nat) (hc : c ≤ 1) (h : t.nat + r4N * c < 2 * qN) : ((c = 1 ∨ ¬ t.nat < qN) → (sub4T t rLimbs).1.nat = (t.nat + r4N * c) % qN) ∧ ((c = 0 ∧ t.nat < qN) → t.nat = (t.nat + r4N * c) % qN) := by
  have h1 := sub4T_nat t rLimbs
  have h2 := borrow4_iff t rLimbs
  rw [rLimbs_nat] at h1 h2
  have h3 := t.nat_lt
  have h4 := (sub4T t rLimbs).1.nat_lt
  have hq : qN < r4N := by decide +kernel
  have hq2 : r4N < 3 * qN := by decide +kernel
  constructor
  · intro hh
    rcases Nat.lt_or_ge t.nat qN with hl | hl
    · have hc1 : c = 1 := hh.resolve_right (fun e => e hl)
      subst hc1
      rw [h2, decide_eq_true hl, Bool.toNat_true, Nat.mul_one] at h1
      rw [Nat.mul_one, Nat.mod_eq_sub_mod (by omega), Nat.mod_eq_of_lt (by omega)]
      omega
    · rw [h2, decide_eq_false (by omega), Bool.toNat_false, Nat.mul_zero] at h1
      have hc0 : c = 0 := by
        rcases Nat.eq_zero_or_pos c with e | e
        · exact e
        · have : c = 1 := by omega
          subst this
          omega
      subst hc0
      rw [Nat.mul_zero, Nat.add_zero] at h ⊢
      rw [Nat.mod_eq_sub_mod hl, Nat.mod_eq_of_lt (by omega)]
      omega
  · rintro ⟨rfl, hl⟩
    rw [Nat.mul_zero, Nat.add_zero, Nat.mod_eq_of_lt hl]
theorem addRF_nat {a b : Fr} (ha : a.nat < qN) (hb : b.nat < qN) : (addRF a b).nat = (a.nat + b.nat) % qN := by
  have h := add4T_nat a b
  have hc : (add4T a b).2.toNat ≤ 1 := by cases (add4T a b).2 <;> simp
  obtain ⟨r1, r2⟩ := reduce4 (add4T a b).1 (add4T a b).2.toNat hc (by omega)
  rw [h] at r1 r2
  unfold addRF plus4F
  cases e : (add4T a b).2 with
  | true => exact r1 (.inl (by rw [e]; rfl))
  | false =>
    rw [below4F_nat, rLimbs_nat]
    by_cases hl : (add4T a b).1.nat < qN
    · rw [decide_eq_true hl]
      exact r2 ⟨by rw [e]; rfl, hl⟩
    · rw [decide_eq_false hl]
      exact r1 (.inr hl)
theorem zeroFr_nat : zeroFr.nat = 0 := by decide +kernel
def L5.nat (t : L5) : Nat := t.t0.toNat + W64 * (t.t1.toNat + W64 * (t.t2.toNat + W64 * (t.t3.toNat + W64 * (t.t4.toNat))))
theorem L5.nat_low (t : L5) : t.nat = t.low.nat + r4N * t.t4.toNat := by
  unfold L5.nat L5.low Fr.nat r4N W64
  simp only []
  omega
def rInv4 : UInt64 := 0xfffffffeffffffff
theorem mont4_inv : montInv rLimbs.l0 = rInv4 := by decide +kernel
theorem low4_step (t : UInt64) : (mulHi (t * rInv4) rLimbs.l0 + b2u (addC t (t * rInv4 * rLimbs.l0) false)).toNat * W64 = (t * rInv4).toNat * rLimbs.l0.toNat + t.toNat := by
  generalize hx : t * rInv4 = x
  have hx' : x.toNat = t.toNat * 18446744069414584319 % 18446744073709551616 := by rw [← hx, UInt64.toNat_mul]; rfl
  have hp : rLimbs.l0.toNat = 18446744069414584321 := rfl
  have ht := t.toNat_lt
  have hlt := x.toNat_lt
  rw [UInt64.toNat_add, b2u_nat, addC_nat, mulHi_nat, UInt64.toNat_mul, hp]
  rw [Bool.toNat_false, Nat.add_zero]
  unfold W64
  have key : (x.toNat * 18446744069414584321 % 18446744073709551616 + t.toNat) % 18446744073709551616 = 0 := by
    rw [hx']
    omega
  omega
theorem rmw (x y t c : UInt64) : (rmH x y t c).toNat * W64 + (rmL x y t c).toNat = x.toNat * y.toNat + t.toNat + c.toNat := by rw [rmH_eq, rmL_eq]; exact mac_w x y t c
theorem mont4B_nat (t0 t1 t2 t3 top : UInt64) (more : Bool) :
    (mont4B rLimbs rInv4 t0 t1 t2 t3 top more).nat * W64 = (t0.toNat + W64 * (t1.toNat + W64 * (t2.toNat + W64 * (t3.toNat + W64 * (top.toNat + W64 * (more.toNat)))))) + (t0 * rInv4).toNat * qN := by
  have q0 := low4_step t0
  unfold mont4B
  simp only [L5.nat]
  generalize mulHi (t0 * rInv4) rLimbs.l0 + b2u (addC t0 (t0 * rInv4 * rLimbs.l0) false) = d0 at *
  generalize t0 * rInv4 = x at *
  have q1 := rmw x rLimbs.l1 t1 d0
  generalize rmH x rLimbs.l1 t1 d0 = d1 at *
  have q2 := rmw x rLimbs.l2 t2 d1
  generalize rmH x rLimbs.l2 t2 d1 = d2 at *
  have q3 := rmw x rLimbs.l3 t3 d2
  generalize rmH x rLimbs.l3 t3 d2 = d3 at *
  have q6 := add_step top d3 false
  have q7 : (b2u more + b2u (addC top d3 false)).toNat = more.toNat + (addC top d3 false).toNat := by
    rw [UInt64.toNat_add, b2u_nat, b2u_nat]
    cases more <;> cases addC top d3 false <;> rfl
  rw [q7]
  have ep : qN = rLimbs.l0.toNat + W64 * (rLimbs.l1.toNat + W64 * (rLimbs.l2.toNat + W64 * (rLimbs.l3.toNat))) := by decide +kernel
  have exp : x.toNat * qN = x.toNat * rLimbs.l0.toNat + W64 * (x.toNat * rLimbs.l1.toNat + W64 * (x.toNat * rLimbs.l2.toNat + W64 * (x.toNat * rLimbs.l3.toNat))) := by
    rw [ep]
    simp only [Nat.mul_add, Nat.mul_left_comm x.toNat W64]
  rw [exp]
  have s4 : (addS top d3 false).toNat + W64 * (more.toNat + (addC top d3 false).toNat) = (top.toNat + W64 * more.toNat) + d3.toNat := by
    simp only [Bool.toNat_false] at q6
    unfold W64 at *
    omega
  have s3 := limb_step q3 s4
  have s2 := limb_step q2 s3
  have s1 := limb_step q1 s2
  rw [s1]
  generalize x.toNat * rLimbs.l0.toNat = y0 at *
  generalize x.toNat * rLimbs.l1.toNat = y1 at *
  generalize x.toNat * rLimbs.l2.toNat = y2 at *
  generalize x.toNat * rLimbs.l3.toNat = y3 at *
  exact zipE (zipS (zipS (zip0 _ _ _))) q0
theorem mont4R_nat (b : Fr) (ai : UInt64) (t : L5) : ∃ m : Nat, m < W64 ∧ (mont4R rLimbs rInv4 ai b t).nat * W64 = t.nat + ai.toNat * b.nat + m * qN := by
  unfold mont4R
  simp only []
  have q0 := rmw ai b.l0 t.t0 0
  generalize rmH ai b.l0 t.t0 0 = c0 at *
  have q1 := rmw ai b.l1 t.t1 c0
  generalize rmH ai b.l1 t.t1 c0 = c1 at *
  have q2 := rmw ai b.l2 t.t2 c1
  generalize rmH ai b.l2 t.t2 c1 = c2 at *
  have q3 := rmw ai b.l3 t.t3 c2
  generalize rmH ai b.l3 t.t3 c2 = c3 at *
  have q6 := add_step t.t4 c3 false
  refine ⟨(rmL ai b.l0 t.t0 0 * rInv4).toNat, UInt64.toNat_lt _, ?_⟩
  rw [mont4B_nat]
  refine congrArg (fun z => z + (rmL ai b.l0 t.t0 0 * rInv4).toNat * qN) ?_
  have e : ai.toNat * b.nat = ai.toNat * b.l0.toNat + W64 * (ai.toNat * b.l1.toNat + W64 * (ai.toNat * b.l2.toNat + W64 * (ai.toNat * b.l3.toNat))) := by
    unfold Fr.nat
    simp only [Nat.mul_add, Nat.mul_left_comm ai.toNat W64]
  rw [e]
  have s4 : (addS t.t4 c3 false).toNat + W64 * (addC t.t4 c3 false).toNat = t.t4.toNat + c3.toNat := by simpa using q6
  have s3 := limb_step q3 s4
  have s2 := limb_step q2 s3
  have s1 := limb_step q1 s2
  have s0 := limb_step q0 s1
  rw [s0]
  have z : (0 : UInt64).toNat = 0 := rfl
  rw [z, L5.nat]
  generalize ai.toNat * b.l0.toNat = x0 at *
  generalize ai.toNat * b.l1.toNat = x1 at *
  generalize ai.toNat * b.l2.toNat = x2 at *
  generalize ai.toNat * b.l3.toNat = x3 at *
  rw [Nat.add_zero]
  exact zipS (zipS (zipS (zip0 _ _ _)))
theorem mont4R_bound {b : Fr} {ai : UInt64} {t : L5} (h : t.nat < b.nat + qN) : (mont4R rLimbs rInv4 ai b t).nat < b.nat + qN := by
  obtain ⟨m, hm, e⟩ := mont4R_nat b ai t
  have hb := ai.toNat_lt
  have h1 : ai.toNat * b.nat ≤ (W64 - 1) * b.nat := Nat.mul_le_mul_right _ (by unfold W64; omega)
  have h2 : m * qN ≤ (W64 - 1) * qN := Nat.mul_le_mul_right _ (by omega)
  have h3 : (mont4R rLimbs rInv4 ai b t).nat * W64 < (b.nat + qN) * W64 := by
    rw [e]
    unfold W64 at *
    omega
  exact Nat.lt_of_mul_lt_mul_right h3
set_option maxRecDepth 100000 in
theorem mont4T_nat (a b : Fr) : ∃ k : Nat, (mont4_4 a b rLimbs).nat * r4N = a.nat * b.nat + k * qN ∧ (mont4_4 a b rLimbs).nat < b.nat + qN := by
  have hp0 : 0 < qN := qN_pos
  obtain ⟨m0, _, e0⟩ := mont4R_nat b a.l0 ⟨0, 0, 0, 0, 0⟩
  obtain ⟨m1, _, e1⟩ := mont4R_nat b a.l1 (mont4_1 a b rLimbs)
  obtain ⟨m2, _, e2⟩ := mont4R_nat b a.l2 (mont4_2 a b rLimbs)
  obtain ⟨m3, _, e3⟩ := mont4R_nat b a.l3 (mont4_3 a b rLimbs)
  have z : (L5.mk 0 0 0 0 0).nat = 0 := by decide +kernel
  have b0 : (mont4_1 a b rLimbs).nat < b.nat + qN := by unfold mont4_1; rw [mont4_inv]; exact mont4R_bound (by rw [z]; omega)
  have b1 : (mont4_2 a b rLimbs).nat < b.nat + qN := by unfold mont4_2; rw [mont4_inv]; exact mont4R_bound b0
  have b2 : (mont4_3 a b rLimbs).nat < b.nat + qN := by unfold mont4_3; rw [mont4_inv]; exact mont4R_bound b1
  have b3 : (mont4_4 a b rLimbs).nat < b.nat + qN := by unfold mont4_4; rw [mont4_inv]; exact mont4R_bound b2
  refine ⟨m0 + W64 * (m1 + W64 * (m2 + W64 * (m3))), ?_, b3⟩
  rw [z] at e0
  rw [show mont4R rLimbs rInv4 a.l0 b ⟨0, 0, 0, 0, 0⟩ = mont4_1 a b rLimbs by unfold mont4_1; rw [mont4_inv]] at e0
  rw [show mont4R rLimbs rInv4 a.l1 b (mont4_1 a b rLimbs) = mont4_2 a b rLimbs by unfold mont4_2; rw [mont4_inv]] at e1
  rw [show mont4R rLimbs rInv4 a.l2 b (mont4_2 a b rLimbs) = mont4_3 a b rLimbs by unfold mont4_3; rw [mont4_inv]] at e2
  rw [show mont4R rLimbs rInv4 a.l3 b (mont4_3 a b rLimbs) = mont4_4 a b rLimbs by unfold mont4_4; rw [mont4_inv]] at e3
  have er : r4N = W64 * (W64 * (W64 * W64)) := by decide +kernel
  have eb : a.nat * b.nat = a.l0.toNat * b.nat + W64 * (a.l1.toNat * b.nat + W64 * (a.l2.toNat * b.nat + W64 * (a.l3.toNat * b.nat))) := by
    rw [show a.nat = a.l0.toNat + W64 * (a.l1.toNat + W64 * (a.l2.toNat + W64 * (a.l3.toNat))) from rfl]
    simp only [Nat.add_mul, Nat.mul_assoc]
  have ek : (m0 + W64 * (m1 + W64 * (m2 + W64 * (m3)))) * qN = m0 * qN + W64 * (m1 * qN + W64 * (m2 * qN + W64 * (m3 * qN))) := by
    simp only [Nat.add_mul, Nat.mul_assoc]
  rw [er, eb, ek]
  have st : ∀ {t' t z R : Nat}, t' * W64 = t + z → ∀ s : Nat, t' * (W64 * s) = (t + z) * s := fun h s => by rw [← Nat.mul_assoc, h]
  rw [st (R := 0) (t := (mont4_3 a b rLimbs).nat) (z := a.l3.toNat * b.nat + m3 * qN) (by rw [e3, Nat.add_assoc])]
  rw [Nat.add_mul, st (R := 0) (t := (mont4_2 a b rLimbs).nat) (z := a.l2.toNat * b.nat + m2 * qN) (by rw [e2, Nat.add_assoc])]
  rw [Nat.add_mul _ _ (W64 * W64), st (R := 0) (t := (mont4_1 a b rLimbs).nat) (z := a.l1.toNat * b.nat + m1 * qN) (by rw [e1, Nat.add_assoc])]
  rw [Nat.add_mul _ _ W64, e0]
  generalize a.l0.toNat * b.nat = x0
  generalize a.l1.toNat * b.nat = x1
  generalize a.l2.toNat * b.nat = x2
  generalize a.l3.toNat * b.nat = x3
  generalize m0 * qN = y0
  generalize m1 * qN = y1
  generalize m2 * qN = y2
  generalize m3 * qN = y3
  clear e0 e1 e2 e3 eb ek st
  unfold W64
  omega
theorem mont4X_nat (t : L5) (h6 : t.t4.toNat ≤ 1) (h : t.low.nat + r4N * t.t4.toNat < 2 * qN) : (mont4X rLimbs t).nat = (t.low.nat + r4N * t.t4.toNat) % qN := by
  obtain ⟨r1, r2⟩ := reduce4 t.low t.t4.toNat h6 h
  unfold mont4X
  cases e : t.t4 != 0 with
  | true =>
    have := u64_ne.1 e
    rw [show (0 : UInt64).toNat = 0 from rfl] at this
    exact r1 (.inl (by omega))
  | false =>
    rw [bne_eq_false_iff_eq] at e
    have e0 : t.t4.toNat = 0 := by rw [e]; rfl
    rw [below4F_nat, rLimbs_nat]
    by_cases hl : t.low.nat < qN
    · rw [decide_eq_true hl]
      exact r2 ⟨e0, hl⟩
    · rw [decide_eq_false hl]
      exact r1 (.inr hl)
theorem qN_r4 : qN < r4N := by decide +kernel
theorem mont4F_nat {a b : Fr} (hb : b.nat < qN) : (mont4F a b rLimbs).nat < qN ∧ ((mont4F a b rLimbs).nat * r4N) % qN = (a.nat * b.nat) % qN := by
  obtain ⟨k, h1, h2⟩ := mont4T_nat a b
  unfold mont4F
  generalize mont4_4 a b rLimbs = t at *
  rw [L5.nat_low] at h1 h2
  have hlt := t.low.nat_lt
  have hq3 := qN_r4
  have h6 : t.t4.toNat ≤ 1 := by
    rcases Nat.lt_or_ge t.t4.toNat 2 with h | h
    · omega
    · have : r4N * 2 ≤ r4N * t.t4.toNat := Nat.mul_le_mul_left _ h
      omega
  rw [mont4X_nat t h6 (by omega)]
  refine ⟨Nat.mod_lt _ qN_pos, ?_⟩
  rw [Nat.mod_mul_mod, h1, Nat.add_mul_mod_self_right]
def r4Inv : Nat := 0x1bbe869330009d577204078a4f77266aab6fca8f09dc705f13f75b69fe75c040
theorem r4_inv : r4N * r4Inv % qN = 1 := by decide +kernel
theorem r4_cancel {x y : Nat} (h : x * r4N % qN = y * r4N % qN) : x % qN = y % qN := by
  have e : ∀ z, z % qN = z * r4N % qN * r4Inv % qN := fun z => by
    rw [Nat.mod_mul_mod, Nat.mul_assoc, ← Nat.mul_mod_mod, r4_inv, Nat.mul_one]
  rw [e x, e y, h]
theorem sq4_nat : sq4Limbs.nat = r4N * r4N % qN := by decide +kernel
theorem mulRF_nat {a b : Fr} (hb : b.nat < qN) : (mulRF a b).nat = a.nat * b.nat % qN := by
  have hs : sq4Limbs.nat < qN := by rw [sq4_nat]; exact Nat.mod_lt _ qN_pos
  obtain ⟨h1, h2⟩ := mont4F_nat (a := a) hb
  obtain ⟨h3, h4⟩ := mont4F_nat (a := mont4F a b rLimbs) hs
  have e : (mulRF a b).nat % qN = a.nat * b.nat % qN := by
    refine r4_cancel ?_
    show (mont4F (mont4F a b rLimbs) sq4Limbs rLimbs).nat * r4N % qN = _
    rw [h4, sq4_nat, Nat.mul_mod_mod, ← Nat.mul_assoc, ← Nat.mod_mul_mod, h2, Nat.mod_mul_mod]
  rw [← e]
  exact (Nat.mod_eq_of_lt h3).symm
theorem mulRF_lt {a b : Fr} (hb : b.nat < qN) : (mulRF a b).nat < qN := by rw [mulRF_nat hb]; exact Nat.mod_lt _ qN_pos
end Go.Proofs.Ytchlamfdofpolaa

set_option linter.unusedSimpArgs false
set_option linter.unusedVariables false
namespace Go.Proofs.Ytchlamfdofpolaa
open Go.RowKit
theorem add5_G {K : Type} [Fld K] [Crv K] {f0 : Fp2 → Fp2 → Bool → Fp2} {f1 f2 : Fp2 → Fp2 → Fp2} {f3 : Fp2 → Bool → Fp2} {b : K} {small : Bool} (ok : Fp2 → Prop) (v : Fp2 → K)
    (hA : ∀ {x y}, ok x → ok y → ok (f1 x y) ∧ v (f1 x y) = v x + v y) (hS : ∀ {x y}, ok x → ok y → ok (f2 x y) ∧ v (f2 x y) = v x - v y) (hM : ∀ {x y}, ok x → ok y → ok (f0 x y small) ∧ v (f0 x y small) = v x * v y) (hB : ∀ {x}, ok x → ok (f3 x small) ∧ v (f3 x small) = 3 * b * v x)
    {s t : Fp6} (hs : ok s.c0 ∧ ok s.c1 ∧ ok s.c2) (ht : ok t.c0 ∧ ok t.c1 ∧ ok t.c2) :
    (ok (addS5_G f0 f1 f2 f3 s t small).c0 ∧ ok (addS5_G f0 f1 f2 f3 s t small).c1 ∧ ok (addS5_G f0 f1 f2 f3 s t small).c2) ∧
    v (addS5_G f0 f1 f2 f3 s t small).c0 = rx b (v s.c0) (v s.c1) (v s.c2) (v t.c0) (v t.c1) (v t.c2) ∧ v (addS5_G f0 f1 f2 f3 s t small).c1 = ry b (v s.c0) (v s.c1) (v s.c2) (v t.c0) (v t.c1) (v t.c2) ∧ v (addS5_G f0 f1 f2 f3 s t small).c2 = rz b (v s.c0) (v s.c1) (v s.c2) (v t.c0) (v t.c1) (v t.c2) := by
  obtain ⟨s0, s1, s2⟩ := hs
  obtain ⟨t0, t1, t2⟩ := ht
  have a0 := hM s0 t0
  have a1 := hM s1 t1
  have a2 := hM s2 t2
  have b3 := hM (hA s0 s1).1 (hA t0 t1).1
  have b4 := hM (hA s1 s2).1 (hA t1 t2).1
  have b5 := hM (hA s0 s2).1 (hA t0 t2).1
  have c3 := hS (hS b3.1 a0.1).1 a1.1
  have c4 := hS (hS b4.1 a1.1).1 a2.1
  have c5 := hS (hS b5.1 a0.1).1 a2.1
  have d0 := hA (hA a0.1 a0.1).1 a0.1
  have d2 := hB a2.1
  have dz := hA a1.1 d2.1
  have d1 := hS a1.1 d2.1
  have dy := hB c5.1
  have x1 := hM c3.1 d1.1
  have x2 := hM c4.1 dy.1
  have y1 := hM d1.1 dz.1
  have y2 := hM dy.1 d0.1
  have z1 := hM dz.1 c4.1
  have z2 := hM d0.1 c3.1
  have X := hS x1.1 x2.1
  have Y := hA y1.1 y2.1
  have Z := hA z1.1 z2.1
  have e3 := c3.2
  rw [(hS b3.1 a0.1).2, b3.2, a0.2, a1.2, (hA s0 s1).2, (hA t0 t1).2] at e3
  have e4 := c4.2
  rw [(hS b4.1 a1.1).2, b4.2, a1.2, a2.2, (hA s1 s2).2, (hA t1 t2).2] at e4
  have e5 := c5.2
  rw [(hS b5.1 a0.1).2, b5.2, a0.2, a2.2, (hA s0 s2).2, (hA t0 t2).2] at e5
  have eX := X.2
  rw [x1.2, x2.2, e3, e4, d1.2, dy.2, e5, d2.2, a1.2, a2.2] at eX
  have eY := Y.2
  rw [y1.2, y2.2, d1.2, dz.2, dy.2, e5, d0.2, (hA a0.1 a0.1).2, d2.2, a0.2, a1.2, a2.2] at eY
  have eZ := Z.2
  rw [z1.2, z2.2, dz.2, e4, d0.2, (hA a0.1 a0.1).2, d2.2, e3, a0.2, a1.2, a2.2] at eZ
  refine ⟨⟨X.1, Y.1, Z.1⟩, eX.trans ?_, eY.trans ?_, eZ.trans ?_⟩
  · unfold rx; clear eX eY eZ e3 e4 e5; grind
  · unfold ry; clear eX eY eZ e3 e4 e5; grind
  · unfold rz; clear eX eY eZ e3 e4 e5; grind
theorem mulS_false (f0 : Fp → Fp → Fp) (f1 : Fp2 → Fp2 → Fp2) (x y : Fp2) : mulS_G f0 f1 x y false = f1 x y := rfl
theorem b3_false (f0 f1 : Fp2 → Fp2 → Fp2) (f2 x : Fp2) : b3R_G f0 f1 f2 x false = f1 (f0 (f0 (f0 (f0 x x) (f0 x x)) (f0 (f0 x x) (f0 x x))) (f0 (f0 x x) (f0 x x))) f2 := rfl
theorem twelve_v {K : Type} [CR K] (x : K) : x + x + (x + x) + (x + x + (x + x)) + (x + x + (x + x)) = 3 * 4 * x := by grind
theorem none5_eq : none5 = ⟨zeroFp2, oneFp2, zeroFp2⟩ := by
  unfold none5
  rw [one2R_eq]
  rfl
theorem pj_div {K : Type} [Fld K] {x z : K} (hz : z ≠ 0) : x * z * Fld.inv z = x := by
  have := mul_inv' hz
  grind
theorem big_mul {x y : Fp2} (hx : x.ok) (hy : y.ok) : (mulS x y false).ok ∧ (mulS x y false).v = x.v * y.v := by
  unfold mulS
  rw [mulS_false, mul2R_eq hx hy]
  exact ⟨mul_ok2 hx hy, v_mul2 hx hy⟩
theorem big_add {x y : Fp2} (hx : x.ok) (hy : y.ok) : (add2R x y).ok ∧ (add2R x y).v = x.v + y.v := by rw [add2R_eq]; exact ⟨add_ok2 hx hy, v_add2 hx hy⟩
theorem big_sub {x y : Fp2} (hx : x.ok) (hy : y.ok) : (sub2R x y).ok ∧ (sub2R x y).v = x.v - y.v := by rw [sub2R_eq]; exact ⟨sub_ok2 hx hy, v_sub2 hx hy⟩
theorem bb2_xi : bb2 = 4 * xi := Qd.ext'
  (by rw [V2.mul_a, xi_a, xi_b]; show (4 : V1) = 4 * 1 - 0 * 1; grind)
  (by rw [V2.mul_b, xi_a, xi_b]; show (4 : V1) = 4 * 1 + 0 * 1; grind)
theorem b3_xi (x k b : V2) (h : b = 4 * k) : 3 * 4 * x * k = 3 * b * x := by rw [h]; grind
theorem big_b3 {x : Fp2} (hx : x.ok) : (b3R x false).ok ∧ (b3R x false).v = 3 * Crv.b * x.v := by
  unfold b3R
  rw [b3_false]
  have h2 := big_add hx hx
  have h4 := big_add h2.1 h2.1
  have h8 := big_add h4.1 h4.1
  have h12 := big_add h8.1 h4.1
  rw [mul2R_eq h12.1 xi_ok2]
  refine ⟨mul_ok2 h12.1 xi_ok2, ?_⟩
  rw [v_mul2 h12.1 xi_ok2, h12.2, h8.2, h4.2, h2.2, twelve_v, v_xi2]
  exact b3_xi _ _ _ bb2_xi
def big3 (s : Fp6) : Prop := s.c0.ok ∧ s.c1.ok ∧ s.c2.ok
def relR2 (s : Fp6) (p : Pt V2) : Prop := big3 s ∧ Pj s.c0.v s.c1.v s.c2.v p
theorem add5_rel2 {s t : Fp6} {p q : Pt V2} (hp : p.on) (hq : q.on) (hs : relR2 s p) (ht : relR2 t q) : relR2 (addS5 s t false) (p.add q) := by
  unfold addS5
  obtain ⟨h1, h2, h3, h4⟩ := add5_G (b := (Crv.b : V2)) Fp2.ok Fp2.v big_add big_sub big_mul big_b3 hs.1 ht.1
  refine ⟨h1, ?_⟩
  rw [h2, h3, h4]
  exact sum_all hp hq hs.2 ht.2
theorem relR2_mk {a b c : Fp2} {p : Pt V2} (ha : a.ok) (hb : b.ok) (hc : c.ok) (h : Pj a.v b.v c.v p) : relR2 ⟨a, b, c⟩ p := ⟨⟨ha, hb, hc⟩, h⟩
theorem none_rel2 : relR2 none5 .inf := by
  rw [none5_eq]
  refine relR2_mk zero_ok2 one_ok2 zero_ok2 ?_
  rw [v_zero2, v_one2]
  exact ⟨rfl, rfl, one_ne'⟩
theorem of2_inf {f0 : Fp6} {f1 : Fp2} {a : Pg2} (h : a.inf = true) : of2R_G f0 f1 a = f0 := by unfold of2R_G; rw [h]
theorem of2_aff {f0 : Fp6} {f1 : Fp2} {a : Pg2} (h : a.inf = false) : of2R_G f0 f1 a = ⟨a.x, a.y, f1⟩ := by unfold of2R_G; rw [h]
theorem of2_rel {a : Pg2} (ha : a.good) : relR2 (of2R a) a.pt := by
  unfold of2R
  cases hi : a.inf with
  | true => rw [of2_inf hi, pt2_inf hi]; exact none_rel2
  | false =>
    obtain ⟨hx, hy⟩ := ok_aff2 ha.1 hi
    rw [of2_aff hi, pt2_aff hi, one2R_eq]
    refine relR2_mk hx hy one_ok2 ?_
    rw [v_one2]
    exact ⟨one_ne', (CR.mul_one _).symm, (CR.mul_one _).symm⟩
theorem to2_no {f0 : Fp2 → Fp2 × Int} {f1 : Fp2 → Fp2 → Fp2} {s : Fp6} (h : (f0 s.c2).2 = 7) : to2R_G f0 f1 s = infG2 := by
  unfold to2R_G
  rw [h]
  rfl
theorem to2_yes {f0 : Fp2 → Fp2 × Int} {f1 : Fp2 → Fp2 → Fp2} {s : Fp6} (h : (f0 s.c2).2 = 0) : to2R_G f0 f1 s = ⟨f1 s.c0 (f0 s.c2).1, f1 s.c1 (f0 s.c2).1, false⟩ := by
  unfold to2R_G
  rw [h]
  rfl
theorem to2_rel {s : Fp6} {p : Pt V2} (hp : p.on) (h : relR2 s p) : (to2R s).good ∧ (to2R s).pt = p := by
  obtain ⟨⟨h0, h1, h2⟩, hj⟩ := h
  obtain ⟨i1, i2⟩ := inv_v2' h2
  have ei := inv2R_eq h2
  unfold to2R
  cases p with
  | inf =>
    rw [to2_no (by rw [ei]; exact i1 hj.2.1)]
    exact ⟨good_inf2, rfl⟩
  | aff x y =>
    obtain ⟨hz, e1, e2⟩ := hj
    obtain ⟨j1, j2, j3⟩ := i2 hz
    rw [to2_yes (by rw [ei]; exact j1), ei, mul2R_eq h0 j2, mul2R_eq h1 j2]
    refine good2_mk (mul_ok2 h0 j2) (mul_ok2 h1 j2) ?_ ?_ hp
    · rw [v_mul2 h0 j2, j3, e1]
      exact pj_div hz
    · rw [v_mul2 h1 j2, j3, e2]
      exact pj_div hz
theorem times_rel2 {s : Fp6} {p : Pt V2} (hp : p.on) (h : relR2 s p) (e : List UInt64) : relR2 (timesR s e false) (p.mul (valL e)) :=
  dblG_all relR2 hp (fun hq h => add5_rel2 hq hq h h) (fun hq k => add5_rel2 hq hp k h) e none_rel2
theorem list4_val (k : Fr) : valL k.list = k.nat := by
  show valAt [k.l0, k.l1, k.l2, k.l3] 4 = _
  unfold Fr.nat
  simp only [valAt, atF, List.getD_eq_getElem?_getD, List.getElem?_cons_zero, List.getElem?_cons_succ, Option.getD_some, W64]
  omega
theorem times2_pt {s : Fp6} {p : Pt V2} (hp : p.on) (h : rel2 s p) (e : List UInt64) : rel2 (timesG2 s e) (p.mul (valL e)) :=
  dblG_all rel2 hp (fun hq h => twice2_rel hq h) (fun hq k => plus2_rel hq hp k h) e rel2_inf
theorem mulG2_def (f0 : Fp6 → Pg2) (f1 : Fp6 → List UInt64 → Fp6) (f2 : Pg2 → Fp6) (a : Pg2) (k : Fr) : mulG2_G f0 f1 f2 a k = f0 (f1 (f2 a) k.list) := rfl
theorem mul2_pt {a : Pg2} (ha : a.good) (k : Fr) : (mulG2 a k).good ∧ (mulG2 a k).pt = a.pt.mul k.nat := by
  unfold mulG2
  rw [mulG2_def, ← list4_val]
  exact lays2_rel (mul_on ha.2 _) (times2_pt ha.2 (lift2_rel ha) _)
theorem times2R_def (f0 : Fp6 → Pg2) (f1 : Fp6 → List UInt64 → Bool → Fp6) (f2 : Pg2 → Fp6) (a : Pg2) (k : Fr) : times2R_G f0 f1 f2 a k = f0 (f1 (f2 a) k.list false) := rfl
theorem times2R_pt {a : Pg2} (ha : a.good) (k : Fr) : (times2R a k).good ∧ (times2R a k).pt = a.pt.mul k.nat := by
  unfold times2R
  rw [times2R_def, ← list4_val]
  exact to2_rel (mul_on ha.2 _) (times_rel2 ha.2 (of2_rel ha) _)
theorem times2R_eq {a : Pg2} (ha : a.good) (k : Fr) : times2R a k = mulG2 a k := pt2_inj (times2R_pt ha k).1.1 (mul2_pt ha k).1.1 ((times2R_pt ha k).2.trans (mul2_pt ha k).2.symm)
end Go.Proofs.Ytchlamfdofpolaa

set_option linter.unusedSimpArgs false
set_option linter.unusedVariables false
namespace Go.Proofs.Ytchlamfdofpolaa
open Go.RowKit
def force {α : Type} (n : Nat) (k : Nat → α) : α := match n with
  | 0 => k 0
  | m + 1 => k (m + 1)
theorem force_eq {α : Type} (n : Nat) (k : Nat → α) : force n k = k n := by cases n <;> rfl
def fcV2 {α : Type} (a : V2) (k : V2 → α) : α := force a.a.nat fun n => force a.b.nat fun m => k ⟨V1.of n, V1.of m⟩
theorem fcV2_eq {α : Type} (a : V2) (k : V2 → α) : fcV2 a k = k a := by unfold fcV2; rw [force_eq, force_eq, V1.of_nat, V1.of_nat]
def goP {K : Type} [Fld K] [Crv K] (fc : K → (K → K × K × K) → K × K × K) (b gx gy : K) (e : List UInt64) : Nat → K → K → K → K × K × K
  | 0, X, Y, Z => (X, Y, Z)
  | n + 1, X, Y, Z => fc (rx b X Y Z X Y Z) fun X' => fc (ry b X Y Z X Y Z) fun Y' => fc (rz b X Y Z X Y Z) fun Z' => match bitAt e n with
    | true => fc (rx b X' Y' Z' gx gy 1) fun X'' => fc (ry b X' Y' Z' gx gy 1) fun Y'' => fc (rz b X' Y' Z' gx gy 1) fun Z'' => goP fc b gx gy e n X'' Y'' Z''
    | false => goP fc b gx gy e n X' Y' Z'
theorem goP_eq {K : Type} [Fld K] [Crv K] {fc : K → (K → K × K × K) → K × K × K} (h : ∀ a k, fc a k = k a) (b gx gy : K) (e : List UInt64) : ∀ (n : Nat) (X Y Z : K),
    goP fc b gx gy e n X Y Z = dblG (fun s => (rx b s.1 s.2.1 s.2.2 s.1 s.2.1 s.2.2, ry b s.1 s.2.1 s.2.2 s.1 s.2.1 s.2.2, rz b s.1 s.2.1 s.2.2 s.1 s.2.1 s.2.2)) (fun s => (rx b s.1 s.2.1 s.2.2 gx gy 1, ry b s.1 s.2.1 s.2.2 gx gy 1, rz b s.1 s.2.1 s.2.2 gx gy 1)) e n (X, Y, Z)
  | 0, X, Y, Z => rfl
  | n + 1, X, Y, Z => by
    simp only [goP, h, dblG]
    cases bitAt e n with
    | true => exact goP_eq h b gx gy e n _ _ _
    | false => exact goP_eq h b gx gy e n _ _ _
theorem order_of {K : Type} [Fld K] [Crv K] {fc : K → (K → K × K × K) → K × K × K} (h : ∀ a k, fc a k = k a) {gx gy : K} (hg : (Pt.aff gx gy).on) (e : List UInt64) (hz : (goP fc Crv.b gx gy e (64 * e.length) 0 1 0).2.2 = 0) : (Pt.aff gx gy).mul (valL e) = .inf := by
  rw [goP_eq h] at hz
  have key := dblG_all (fun (s : K × K × K) p => Pj s.1 s.2.1 s.2.2 p) (p := Pt.aff gx gy) hg (tw := fun s => (rx Crv.b s.1 s.2.1 s.2.2 s.1 s.2.1 s.2.2, ry Crv.b s.1 s.2.1 s.2.2 s.1 s.2.1 s.2.2, rz Crv.b s.1 s.2.1 s.2.2 s.1 s.2.1 s.2.2)) (pl := fun s => (rx Crv.b s.1 s.2.1 s.2.2 gx gy 1, ry Crv.b s.1 s.2.1 s.2.2 gx gy 1, rz Crv.b s.1 s.2.1 s.2.2 gx gy 1))
    (fun hq k => sum_all hq hq k k) (fun hq k => sum_all hq hg k ⟨one_ne', (CR.mul_one _).symm, (CR.mul_one _).symm⟩) e (o := ((0 : K), (1 : K), (0 : K))) ⟨rfl, rfl, one_ne'⟩
  generalize (Pt.aff gx gy).mul (valL e) = p at *
  cases p with
  | inf => rfl
  | aff x y => exact absurd hz key.1
theorem rLimbs_val : valL rLimbs.list = qN := by rw [list4_val, rLimbs_nat]
theorem gen2_eq : gen2R = oneG2 := rfl
theorem gen2_ok : oneG2.x.ok ∧ oneG2.y.ok := ⟨⟨by unfold Fp.ok; decide +kernel, by unfold Fp.ok; decide +kernel⟩, ⟨by unfold Fp.ok; decide +kernel, by unfold Fp.ok; decide +kernel⟩⟩
theorem gen2_aff : oneG2.inf = false := rfl
theorem V2.ext_nat {x y : V2} (h : x.a.nat = y.a.nat) (g : x.b.nat = y.b.nat) : x = y := Qd.ext' (V1.ext h) (V1.ext g)
theorem gen2_on : (Pt.aff oneG2.x.v oneG2.y.v).on := V2.ext_nat (by
  show ((oneG2.y.v * oneG2.y.v).a).nat = (oneG2.x.v * oneG2.x.v * oneG2.x.v + bb2).a.nat
  decide +kernel) (by
  show ((oneG2.y.v * oneG2.y.v).b).nat = (oneG2.x.v * oneG2.x.v * oneG2.x.v + bb2).b.nat
  decide +kernel)
theorem gen2_good : oneG2.good := ⟨.inr ⟨gen2_aff, gen2_ok⟩, gen2_on⟩
theorem gen2_pt : oneG2.pt = .aff oneG2.x.v oneG2.y.v := pt2_aff gen2_aff
theorem gen2_order : oneG2.pt.mul qN = .inf := by
  rw [← rLimbs_val, gen2_pt]
  exact order_of (fc := fcV2) fcV2_eq gen2_on rLimbs.list (V2.ext_nat (by decide +kernel) (by decide +kernel))
end Go.Proofs.Ytchlamfdofpolaa

set_option linter.unusedSimpArgs false
set_option linter.unusedVariables false
namespace Go.Proofs.Ytchlamfdofpolaa
open Go.RowKit
def begun9_G (f0 : Pg2) (f1 : Pg2) (f2 : Pg2 → Bool) (f3 : Pg2 → Pg2 → Pg2) (f4 : Pg2 → Pg2) (f5 : Pg2 → Fr → Pg2) (f6 : Pg2 → Pg2 → Bool) (f7 : Pg2 → Bool) : Bool := (match (pg2Eq (f0) (f1)) with | true => (match (f2 f0) with | true => (match (pg2Eq (f3 f0 (f4 f0)) (infG2)) with | true => (match (pg2Eq (f5 f0 { l0 := UInt64.ofNat 2, l1 := UInt64.ofNat 0, l2 := UInt64.ofNat 0, l3 := UInt64.ofNat 0 }) (f3 f0 f0)) with | true => (match (f6 f0 f0) with | true => ((f7 f0)) | false => ((false))) | false => ((false))) | false => ((false))) | false => ((false))) | false => ((false)))
def begun9_T (f0 : Pg2) (f1 : Pg2) (f2 : Pg2 → Bool) (f3 : Pg2 → Pg2 → Pg2) (f4 : Pg2 → Pg2) (f5 : Pg2 → Fr → Pg2) (f6 : Pg2 → Pg2 → Bool) (f7 : Pg2 → Bool) : Tree (Option (Bool)) :=
  (.br (pg2Eq (f0) (f1))
    (.br (f2 f0)
      (.br (pg2Eq (f3 f0 (f4 f0)) (infG2))
        (.br (pg2Eq (f5 f0 { l0 := UInt64.ofNat 2, l1 := UInt64.ofNat 0, l2 := UInt64.ofNat 0, l3 := UInt64.ofNat 0 }) (f3 f0 f0))
          (.br (f6 f0 f0)
            (.leaf (some ((f7 f0))))
            (.leaf (some ((false)))))
          (.leaf (some ((false)))))
        (.leaf (some ((false)))))
      (.leaf (some ((false)))))
    (.leaf (some ((false)))))
theorem begun9_run (f0 : Pg2) (f1 : Pg2) (f2 : Pg2 → Bool) (f3 : Pg2 → Pg2 → Pg2) (f4 : Pg2 → Pg2) (f5 : Pg2 → Fr → Pg2) (f6 : Pg2 → Pg2 → Bool) (f7 : Pg2 → Bool) : plainRun (En [(49, K0 (kRow Pg2).rs.res f0), (46, K0 (kRow Pg2).rs.res f1), (45, K1 (kRow Pg2).arg kBool.rs.res f2), (38, K2 (kRow Pg2).arg (kRow Pg2).arg (kRow Pg2).rs.res f3), (40, K1 (kRow Pg2).arg (kRow Pg2).rs.res f4), (42, K2 (kRow Pg2).arg (kRow Fr).arg (kRow Pg2).rs.res f5), (44, K2 (kRow Pg2).arg (kRow Pg2).arg kBool.rs.res f6), (50, K1 (kRow Pg2).arg kBool.rs.res f7)]) kBool.rs 300 Try.f36 [] = begun9_T f0 f1 f2 f3 f4 f5 f6 f7 := by kernel_rfl
theorem begun9_sat (f0 : Pg2) (f1 : Pg2) (f2 : Pg2 → Bool) (f3 : Pg2 → Pg2 → Pg2) (f4 : Pg2 → Pg2) (f5 : Pg2 → Fr → Pg2) (f6 : Pg2 → Pg2 → Bool) (f7 : Pg2 → Bool) : (begun9_T f0 f1 f2 f3 f4 f5 f6 f7).sat fun q => q = some (begun9_G f0 f1 f2 f3 f4 f5 f6 f7) := ⟨fun h0 => ⟨fun h1 => ⟨fun h2 => ⟨fun h3 => ⟨fun h4 => (show some _ = some _ from congrArg some (by unfold begun9_G; rw [h0, h1, h2, h3, h4])), fun h4 => (show some _ = some _ from congrArg some (by unfold begun9_G; rw [h0, h1, h2, h3, h4]))⟩, fun h3 => (show some _ = some _ from congrArg some (by unfold begun9_G; rw [h0, h1, h2, h3]))⟩, fun h2 => (show some _ = some _ from congrArg some (by unfold begun9_G; rw [h0, h1, h2]))⟩, fun h1 => (show some _ = some _ from congrArg some (by unfold begun9_G; rw [h0, h1]))⟩, fun h0 => (show some _ = some _ from congrArg some (by unfold begun9_G; rw [h0]))⟩
def begun9  : Bool := begun9_G oneG2 gen2R onG2 addG2 negG2 mulG2 eqG2 inG2
theorem begun9_ok : CallOk Try.prog 36 (K0 kBool.rs.res begun9) :=
  P0 (En_ok (.cons oneG2_ok (.cons gen2R_ok (.cons onG2_ok (.cons addG2_ok (.cons negG2_ok (.cons mulG2_ok (.cons eqG2_ok (.cons inG2_ok .nil))))))))) Try.func36 (bodied Try.func36 (by kernel_rfl) (by kernel_rfl)) 300  kBool.rs begun9 (begun9_run oneG2 gen2R onG2 addG2 negG2 mulG2 eqG2 inG2) (begun9_sat oneG2 gen2R onG2 addG2 negG2 mulG2 eqG2 inG2)
end Go.Proofs.Ytchlamfdofpolaa

set_option linter.unusedSimpArgs false
set_option linter.unusedVariables false
namespace Go.Proofs.Ytchlamfdofpolaa
open Go.RowKit
theorem two_nat : (⟨2, 0, 0, 0⟩ : Fr).nat = 2 := by decide +kernel
end Go.Proofs.Ytchlamfdofpolaa

set_option linter.unusedSimpArgs false
set_option linter.unusedVariables false
namespace Go.Proofs.Ytchlamfdofpolaa
open Go.RowKit
theorem pg2Eq_refl (a : Pg2) : pg2Eq a a = true := (pg2Eq_iff a a).2 rfl
theorem eq2_of {a b : Pg2} (ha : a.good) (hb : b.good) (h : a.pt = b.pt) : eqG2 a b = true := by rw [eqG2_eq]; exact (pg2Eq_pt ha.1 hb.1).2 h
theorem jc_zero2 {X Y Z : V2} (h : Jc X Y Z .inf) : Z = 0 := h
theorem inG2_def (f0 : Pg2 → Bool) (f1 : Fp2 → Bool) (f2 : Fp6 → List UInt64 → Fp6) (f3 : Pg2 → Fp6) (f4 : Fr) (a : Pg2) : inG2_G f0 f1 f2 f3 f4 a = (f0 a && f1 (f2 (f3 a) f4.list).c2) := by
  unfold inG2_G
  cases f0 a <;> rfl
theorem rel2_none {s : Fp6} {p : Pt V2} (h : rel2 s p) : zeroG2 s.c2 = true ↔ p = .inf := by
  rw [m2_zero h.1.2.2]
  constructor
  · exact h.2.inf_of
  · intro e
    subst e
    exact jc_zero2 h.2
theorem in2_iff (a : Pg2) : inG2 a = true ↔ a.good ∧ a.pt.mul qN = .inf := by
  have key : a.good → (zeroG2 (timesG2 (liftG2 a) rLimbs.list).c2 = true ↔ a.pt.mul qN = .inf) := fun hg => by
    rw [← rLimbs_val]
    exact rel2_none (times2_pt hg.2 (lift2_rel hg) rLimbs.list)
  unfold inG2
  rw [inG2_def, Bool.and_eq_true, on2_iff]
  exact ⟨fun h => ⟨h.1, (key h.1).1 h.2⟩, fun h => ⟨h.1, (key h.1).2 h.2⟩⟩
theorem gmul2 (k : Fr) : (mulG2 oneG2 k).good ∧ (mulG2 oneG2 k).pt = oneG2.pt.mul k.nat := mul2_pt gen2_good k
theorem gmul2_mod (n : Nat) : oneG2.pt.mul (n % qN) = oneG2.pt.mul n := mul_mod_pt gen2_good.2 gen2_order n
theorem begun9_L {f0 f1 : Pg2} {f2 : Pg2 → Bool} {f3 : Pg2 → Pg2 → Pg2} {f4 : Pg2 → Pg2} {f5 : Pg2 → Fr → Pg2} {f6 : Pg2 → Pg2 → Bool} {f7 : Pg2 → Bool} (h1 : pg2Eq f0 f1 = true) (h2 : f2 f0 = true) (h3 : pg2Eq (f3 f0 (f4 f0)) infG2 = true) (h4 : pg2Eq (f5 f0 ⟨2, 0, 0, 0⟩) (f3 f0 f0) = true) (h5 : f6 f0 f0 = true) (h6 : f7 f0 = true) : begun9_G f0 f1 f2 f3 f4 f5 f6 f7 = true := by
  unfold begun9_G
  rw [h1, h2, h3, show (⟨UInt64.ofNat 2, UInt64.ofNat 0, UInt64.ofNat 0, UInt64.ofNat 0⟩ : Fr) = ⟨2, 0, 0, 0⟩ from rfl, h4, h5]
  exact h6
theorem opp2 {a : Pg2} (ha : a.good) : (addG2 a (negG2 a)).good ∧ (addG2 a (negG2 a)).pt = .inf := by
  obtain ⟨n1, n2⟩ := neg2_pt ha
  obtain ⟨h1, h2⟩ := add2_pt ha n1
  exact ⟨h1, by rw [h2, n2, add_comm_pt ha.2 (neg_on ha.2), neg_add_pt ha.2]⟩
theorem begun9_true : begun9 = true := by
  have hg := gen2_good
  obtain ⟨o1, o2⟩ := opp2 hg
  obtain ⟨k1, k2⟩ := gmul2 ⟨2, 0, 0, 0⟩
  obtain ⟨a1, a2⟩ := add2_pt hg hg
  unfold begun9
  refine begun9_L ?_ ?_ ?_ ?_ ?_ ?_
  · rw [gen2_eq]; exact pg2Eq_refl _
  · exact (on2_iff _).2 hg
  · exact (pg2Eq_pt o1.1 good_inf2.1).2 o2
  · exact (pg2Eq_pt k1.1 a1.1).2 (by rw [k2, a2, two_nat, mul_succ_pt, mul_one_pt])
  · exact eq2_of hg hg rfl
  · exact (in2_iff _).2 ⟨hg, gen2_order⟩
theorem gtimes2 (k : Fr) : times2R gen2R k = mulG2 oneG2 k := by rw [gen2_eq]; exact times2R_eq gen2_good k
end Go.Proofs.Ytchlamfdofpolaa

set_option linter.unusedSimpArgs false
set_option linter.unusedVariables false
namespace Go.Proofs.Ytchlamfdofpolaa
open Go.RowKit
def digU (k : Fr) (z : Int) : UInt64 := shrU (k.limb (IntKind.i64.wrap (z.tdiv 64)).toNat) ((UInt64.ofNat (z.tmod 64 % 18446744073709551616).toNat).toNat : Int) % UInt64.ofNat 16
def fr0 : Fr := ⟨0, 0, 0, 0⟩
theorem digU_lt (k : Fr) (z : Int) : (digU k z).toNat < 16 := by
  unfold digU
  rw [UInt64.toNat_mod]
  exact Nat.mod_lt _ (by decide)
theorem minmax_min (a b : Nat) : (if (a : Int) < (b : Int) then (a : Int) else (b : Int)) = ((min a b : Nat) : Int) := by
  split <;> omega
end Go.Proofs.Ytchlamfdofpolaa

set_option linter.unusedSimpArgs false
set_option linter.unusedVariables false
namespace Go.Proofs.Ytchlamfdofpolaa
open Go.RowKit
def ssumF (aF uF : Fr → Fr → Fr) (ks ms : List Fr) : Nat → Fr
  | 0 => ⟨UInt64.ofNat 0, UInt64.ofNat 0, UInt64.ofNat 0, UInt64.ofNat 0⟩
  | j + 1 => if j < ks.length then aF (ssumF aF uF ks ms j) (uF (ks.getD j fr0) (ms.getD j fr0)) else ssumF aF uF ks ms j
end Go.Proofs.Ytchlamfdofpolaa

set_option linter.unusedSimpArgs false
set_option linter.unusedVariables false
namespace Go.Proofs.Ytchlamfdofpolaa
open Go.RowKit
section
variable {K : Type} [Fld K] [Crv K]
noncomputable def wsum (P : Nat → Pt K) (k : Nat → Nat) : Nat → Pt K
  | 0 => .inf
  | j + 1 => (wsum P k j).add ((P j).mul (k j))
theorem wsum_on {P : Nat → Pt K} {k : Nat → Nat} : ∀ {n : Nat}, (∀ j, j < n → (P j).on) → (wsum P k n).on
  | 0, _ => trivial
  | n + 1, h => add_on (wsum_on fun j hj => h j (by omega)) (mul_on (h n (by omega)) _)
omit [Crv K] in
theorem wsum_congr {P Q : Nat → Pt K} {k l : Nat → Nat} : ∀ {n : Nat}, (∀ j, j < n → P j = Q j ∧ k j = l j) → wsum P k n = wsum Q l n
  | 0, _ => rfl
  | n + 1, h => by
    simp only [wsum]
    rw [wsum_congr fun j hj => h j (by omega), (h n (by omega)).1, (h n (by omega)).2]
theorem four_sum {a b c d : Pt K} (ha : a.on) (hb : b.on) (hc : c.on) (hd : d.on) : (a.add b).add (c.add d) = (a.add c).add (b.add d) := by
  rw [add_assoc_pt ha hb (add_on hc hd), ← add_assoc_pt hb hc hd, add_comm_pt hb hc, add_assoc_pt hc hb hd, ← add_assoc_pt ha hc (add_on hb hd)]
theorem wsum_add {P : Nat → Pt K} {k l : Nat → Nat} : ∀ {n : Nat}, (∀ j, j < n → (P j).on) → wsum P (fun j => k j + l j) n = (wsum P k n).add (wsum P l n)
  | 0, _ => rfl
  | n + 1, h => by
    have h' : ∀ j, j < n → (P j).on := fun j hj => h j (by omega)
    simp only [wsum]
    rw [wsum_add h', mul_add_pt (h n (by omega)), four_sum (wsum_on h') (wsum_on h') (mul_on (h n (by omega)) _) (mul_on (h n (by omega)) _)]
theorem wsum_mul {P : Nat → Pt K} {k : Nat → Nat} (m : Nat) : ∀ {n : Nat}, (∀ j, j < n → (P j).on) → wsum P (fun j => k j * m) n = (wsum P k n).mul m
  | 0, _ => (mul_inf_pt m).symm
  | n + 1, h => by
    have h' : ∀ j, j < n → (P j).on := fun j hj => h j (by omega)
    simp only [wsum]
    rw [wsum_mul m h', mul_mul_pt (h n (by omega)), add_mul_pt (wsum_on h') (mul_on (h n (by omega)) _)]
omit [Crv K] in
theorem wsum_zero {P : Nat → Pt K} {k : Nat → Nat} : ∀ {n : Nat}, (∀ j, j < n → k j = 0) → wsum P k n = .inf
  | 0, _ => rfl
  | n + 1, h => by
    simp only [wsum]
    rw [wsum_zero fun j hj => h j (by omega), h n (by omega)]
    rfl
theorem mul_sixteen {p : Pt K} (hp : p.on) : (((p.add p).add (p.add p)).add ((p.add p).add (p.add p))).add (((p.add p).add (p.add p)).add ((p.add p).add (p.add p))) = p.mul 16 := by
  have d : ∀ n, (p.mul n).add (p.mul n) = p.mul (n + n) := fun n => (mul_add_pt hp n n).symm
  have e : p.add p = p.mul 2 := by have := d 1; rw [mul_one_pt] at this; exact this
  rw [e, d 2, d 4, d 8]
end
theorem getD_map' {α γ : Type} (f : α → γ) (d : α) (d' : γ) {xs : List α} {i : Nat} (h : i < xs.length) : (xs.map f).getD i d' = f (xs.getD i d) := by
  rw [List.getD_eq_getElem?_getD, List.getElem?_map, List.getElem?_eq_getElem h, List.getD_eq_getElem?_getD, List.getElem?_eq_getElem h]
  rfl
theorem limb_nat (k : Fr) : ∀ {i : Nat}, i < 4 → (k.limb i).toNat = k.nat / 2 ^ (64 * i) % 2 ^ 64
  | 0, _ => by
    have h0 := k.l0.toNat_lt
    show k.l0.toNat = _
    unfold Fr.nat
    rw [show W64 = 18446744073709551616 from rfl]
    simp only [Nat.mul_zero, Nat.pow_zero, Nat.div_one]
    omega
  | 1, _ => by
    have h0 := k.l0.toNat_lt
    have h1 := k.l1.toNat_lt
    show k.l1.toNat = _
    unfold Fr.nat
    rw [show W64 = 18446744073709551616 from rfl, show 2 ^ (64 * 1) = 18446744073709551616 from rfl]
    omega
  | 2, _ => by
    have h0 := k.l0.toNat_lt
    have h1 := k.l1.toNat_lt
    have h2 := k.l2.toNat_lt
    show k.l2.toNat = _
    unfold Fr.nat
    rw [show W64 = 18446744073709551616 from rfl, show 2 ^ (64 * 2) = 18446744073709551616 * 18446744073709551616 from rfl, ← Nat.div_div_eq_div_mul]
    omega
  | 3, _ => by
    have h0 := k.l0.toNat_lt
    have h1 := k.l1.toNat_lt
    have h2 := k.l2.toNat_lt
    have h3 := k.l3.toNat_lt
    show k.l3.toNat = _
    unfold Fr.nat
    rw [show W64 = 18446744073709551616 from rfl, show 2 ^ (64 * 3) = 18446744073709551616 * 18446744073709551616 * 18446744073709551616 from rfl, ← Nat.div_div_eq_div_mul, ← Nat.div_div_eq_div_mul]
    omega
  | n + 4, h => absurd h (by omega)
theorem digU_nat (k : Fr) {m : Nat} (hm : m < 64) : (digU k ((4 * m : Nat) : Int)).toNat = k.nat / 16 ^ m % 16 := by
  have hw : IntKind.i64.wrap (((4 * m : Nat) : Int).tdiv 64) = ((m / 16 : Nat) : Int) := by
    rw [show (((4 * m : Nat) : Int).tdiv 64) = ((4 * m / 64 : Nat) : Int) from rfl, IntWalk.i64_in _ (by omega)]
    congr 1
    omega
  have hs : ((UInt64.ofNat (((4 * m : Nat) : Int).tmod 64 % 18446744073709551616).toNat).toNat : Int) = ((4 * (m % 16) : Nat) : Int) := by
    rw [show (((4 * m : Nat) : Int).tmod 64) = ((4 * m % 64 : Nat) : Int) from rfl, UInt64.toNat_ofNat']
    omega
  unfold digU
  rw [hw, hs, Int.toNat_natCast, UInt64.toNat_mod]
  unfold shrU
  have hl := limb_nat k (i := m / 16) (by omega)
  have e16 : (UInt64.ofNat 16).toNat = 16 := rfl
  have hb := (k.limb (m / 16)).toNat_lt
  rw [UInt64.toNat_ofNat', e16, Int.toNat_natCast, Nat.min_eq_left (by omega)]
  have hd : (k.limb (m / 16)).toNat / 2 ^ (4 * (m % 16)) < 2 ^ 64 := Nat.lt_of_le_of_lt (Nat.div_le_self _ _) hb
  rw [Nat.mod_eq_of_lt hd, hl]
  have hp : (16 : Nat) ^ m = 2 ^ (64 * (m / 16)) * 2 ^ (4 * (m % 16)) := by
    rw [← Nat.pow_add, show (16 : Nat) = 2 ^ 4 from rfl, ← Nat.pow_mul]
    congr 1
    omega
  rw [hp, ← Nat.div_div_eq_div_mul]
  generalize k.nat / 2 ^ (64 * (m / 16)) = y
  have hs : 4 * (m % 16) + 4 ≤ 64 := by omega
  obtain ⟨r, hr⟩ : ∃ r, 64 = 4 * (m % 16) + (4 + r) := ⟨64 - 4 - 4 * (m % 16), by omega⟩
  rw [hr, Nat.pow_add, Nat.mod_mul_right_div_self, Nat.pow_add, Nat.mod_mul_right_mod]
section
variable {K : Type} [Fld K] [Crv K] {R : Sp1 → Pt K → Prop} {tw : Sp1 → Sp1} {pl : Sp1 → Sp1 → Sp1} (h0 : R zeroSp .inf) (htw : ∀ {s : Sp1} {p : Pt K}, p.on → R s p → R (tw s) (p.add p))
  (hpl : ∀ {s t : Sp1} {p q : Pt K}, p.on → q.on → R s p → R t q → R (pl s t) (p.add q))
end
theorem sixteen_getD {α : Type} (f : Nat → α) (d : α) : ∀ {i : Nat}, i < 16 → (sixteen f).getD i d = f i
  | 0, _ => rfl | 1, _ => rfl | 2, _ => rfl | 3, _ => rfl | 4, _ => rfl | 5, _ => rfl | 6, _ => rfl | 7, _ => rfl
  | 8, _ => rfl | 9, _ => rfl | 10, _ => rfl | 11, _ => rfl | 12, _ => rfl | 13, _ => rfl | 14, _ => rfl | 15, _ => rfl
  | n + 16, h => absurd h (by omega)
end Go.Proofs.Ytchlamfdofpolaa

set_option linter.unusedSimpArgs false
set_option linter.unusedVariables false
namespace Go.Proofs.Ytchlamfdofpolaa
open Go.RowKit
def prodTo (ks ms : List Fr) : Nat → Nat
  | 0 => 0
  | j + 1 => if j < ks.length then prodTo ks ms j + (ks.getD j fr0).nat * (ms.getD j fr0).nat else prodTo ks ms j
theorem ssumF_nat {ks ms : List Fr} (hk : ∀ i, i < ks.length → (ks.getD i fr0).nat < qN) (hm : ∀ i, i < ms.length → (ms.getD i fr0).nat < qN) : ∀ j, j ≤ ms.length → (ssumF addRF mulRF ks ms j).nat = prodTo ks ms j % qN
  | 0, _ => by
    show zeroFr.nat = 0 % qN
    rw [zeroFr_nat, Nat.zero_mod]
  | j + 1, h => by
    have ih := ssumF_nat hk hm j (by omega)
    unfold ssumF prodTo
    by_cases hj : j < ks.length
    · rw [if_pos hj, if_pos hj]
      have h2 := hm j (by omega)
      rw [addRF_nat (by rw [ih]; exact Nat.mod_lt _ qN_pos) (mulRF_lt h2), mulRF_nat h2, ih, ← Nat.add_mod]
    · rw [if_neg hj, if_neg hj]
      exact ih
theorem prodTo_wsum {K : Type} [Fld K] [Crv K] {p : Pt K} (hp : p.on) (ks ms : List Fr) : ∀ j, p.mul (prodTo ks ms j) = wsum (fun i => p.mul (ks.getD i fr0).nat) (fun i => (ms.getD i fr0).nat) (min j ks.length)
  | 0 => by
    rw [Nat.zero_min]
    rfl
  | j + 1 => by
    have ih := prodTo_wsum hp ks ms j
    unfold prodTo
    by_cases hj : j < ks.length
    · rw [if_pos hj, mul_add_pt hp, ih, Nat.min_eq_left (by omega), Nat.min_eq_left (by omega), wsum, mul_mul_pt hp]
    · rw [if_neg hj, ih, Nat.min_eq_right (by omega), Nat.min_eq_right (by omega)]
theorem mayRF_lt {a : Fr} (h : mayRF a = true) : a.nat < qN := by
  rw [mayRF_nat] at h
  exact of_decide_eq_true h
end Go.Proofs.Ytchlamfdofpolaa

set_option linter.unusedSimpArgs false
set_option linter.unusedVariables false
namespace Go.Proofs.Ytchlamfdofpolaa
open Go.RowKit
def tabF2 (pl : Fp6 → Fp6 → Fp6) (s : Fp6) : Nat → Fp6
  | 0 => zeroFp6
  | i + 1 => pl (tabF2 pl s i) s
def tabV2 (pl : Fp6 → Fp6 → Fp6) (s : Fp6) : Tab .sp2 := ⟨sixteen (tabF2 pl s), rfl⟩
theorem tab2_run (pl : Fp6 → Fp6 → Fp6) (s : Fp6) : plainRun (En [(82, K2 ks2.arg ks2.arg ks2.rs.res pl)]) (kRow (Tab .sp2)).rs 300 Try.f98 [.one (ks2.av s)] = .leaf (some (tabV2 pl s)) := by kernel_rfl
theorem tableG2_ok : CallOk Try.prog 98 (K1 ks2.arg (kRow (Tab .sp2)).rs.res (tabV2 plusG2)) :=
  P1 (E := En [(82, K2 ks2.arg ks2.arg ks2.rs.res plusG2)]) (En_ok (.cons plusG2_ok .nil)) Try.func98 (bodied Try.func98 (by kernel_rfl) (by kernel_rfl)) 300 ks2 (kRow (Tab .sp2)).rs (tabV2 plusG2) (fun s => tab2_run plusG2 s) (fun s => Tree.sat_leaf rfl)
noncomputable abbrev sum2C : List Code := flat (scopeOf Try.f52)
noncomputable abbrev sum2B (k : Nat) : Code := loopAt Try.f52 k
def sum2K (lf : Pg2 → Fp6) (tb : Fp6 → Tab .sp2) (tw : Fp6 → Fp6) (pl : Fp6 → Fp6 → Fp6) (ly : Fp6 → Pg2) : Table := [(83, K1 kg2.arg ks2.rs.res lf), (98, K1 ks2.arg (kRow (Tab .sp2)).rs.res tb), (99, K1 ks2.arg ks2.rs.res tw), (82, K2 ks2.arg ks2.arg ks2.rs.res pl), (81, K1 ks2.arg kg2.rs.res ly)]
def zerosG2 : List Cell := zeros 24 ++ [.ff]
theorem sum2_front (T : Table) (ps : List Pg2) (ks : List Fr) : stageT (En T) 100 ((flat (codeOf Try.f52)).take 1) (startSt Try.f52 [rwV .g2 0 ps, rwV .fr 1 ks] [rwHE .g2 ps, rwHE .fr ks]) [0, 1, 4] [0, 1, 2] =
    .leaf (mkSt 67 [(0, rwV .g2 0 ps), (1, rwV .fr 1 ks), (4, ptrV 2)] [rwHE .g2 ps, rwHE .fr ks, own 54 zerosG2]) := by kernel_rfl
theorem sum2_start (lf : Pg2 → Fp6) (tb : Fp6 → Tab .sp2) (tw : Fp6 → Fp6) (pl : Fp6 → Fp6 → Fp6) (ly : Fp6 → Pg2) (ps : List Pg2) (ks : List Fr) : stageG (En (sum2K lf tb tw pl ly)) 300 (sum2C.take 3) (mkSt 67 [(0, rwV .g2 0 ps), (1, rwV .fr 1 ks), (4, ptrV 2)] [rwHE .g2 ps, rwHE .fr ks, own 54 zerosG2]) [0, 1, 4, 5, 6, 19, 20, 21] [0, 1, 2] [(0, .as), (1, .as), (4, .as), (5, .int), (6, .nilE 3 576), (19, .slc), (20, .int), (21, .int)] [.as, .as, .as] [(110, .rowsM .sp2 15)] =
  (.vc (0 + ps.length * 25 ≤ (rowsC RK.g2 ps).length ∧ 0 < 25)
    (.vc (0 + ks.length * 4 ≤ (rowsC RK.fr ks).length ∧ 0 < 4)
      (.vc ((0 ≤ if (↑ks.length : Int) < (↑ps.length : Int) then (↑ks.length : Int) else (↑ps.length : Int)) ∧ 0 ≤ (if (↑ks.length : Int) < (↑ps.length : Int) then (↑ks.length : Int) else (↑ps.length : Int)).toNat ∧ (if (↑ks.length : Int) < (↑ps.length : Int) then (↑ks.length : Int) else (↑ps.length : Int)).toNat ≤ ps.length ∧ 0 + ps.length * 25 ≤ (rowsC RK.g2 ps).length ∧ 0 < 25 ∧ (0 = 0 ∨ 0 < (if (↑ks.length : Int) < (↑ps.length : Int) then (↑ks.length : Int) else (↑ps.length : Int)).toNat) ∧ 0 = 0 ∧ 25 = 25)
        (.vc (0 + ((if (↑ks.length : Int) < (↑ps.length : Int) then (↑ks.length : Int) else (↑ps.length : Int)).toNat - 0) * 25 ≤ (rowsC RK.g2 ps).length ∧ 0 < 25)
          (.leaf (mkSt 67 [(0, .one (.c (.slc 0 0 (ps.length) 25 (.of 0) false))), (1, .one (.c (.slc 1 0 (ks.length) 4 (.of 0) false))), (4, .one (.c (.ptr 2 0))), (5, .one (.c (.int .i64 (if (↑ks.length : Int) < (↑ps.length : Int) then (↑ks.length : Int) else (↑ps.length : Int))))), (6, .one (.c (.slc 3 0 0 576 (.of 0) false))), (19, .one (.c (.slc 0 0 ((if (↑ks.length : Int) < (↑ps.length : Int) then (↑ks.length : Int) else (↑ps.length : Int)).toNat - 0) 25 (.of 0) false))), (20, .one (.c (.int .i64 ((↑((if (↑ks.length : Int) < (↑ps.length : Int) then (↑ks.length : Int) else (↑ps.length : Int)).toNat - 0) : Int))))), (21, .one (.c (.int .i64 0)))] [.live ⟨false, 0, 25, (.rows .g2 (ps : List Pg2)), false⟩, .live ⟨false, 0, 4, (.rows .fr (ks : List Fr)), false⟩, .live ⟨true, 54, 0, (.row [(.lit .u64 0), (.lit .u64 0), (.lit .u64 0), (.lit .u64 0), (.lit .u64 0), (.lit .u64 0), (.lit .u64 0), (.lit .u64 0), (.lit .u64 0), (.lit .u64 0), (.lit .u64 0), (.lit .u64 0), (.lit .u64 0), (.lit .u64 0), (.lit .u64 0), (.lit .u64 0), (.lit .u64 0), (.lit .u64 0), (.lit .u64 0), (.lit .u64 0), (.lit .u64 0), (.lit .u64 0), (.lit .u64 0), (.lit .u64 0), .ff]), false⟩, .live ⟨true, 110, 576, (.rows .sp2 ([] : List Fp6)), false⟩])))))) := by kernel_rfl
def ownTab2 (l : List Fp6) : HE := .live ⟨true, 110, 576, .rows .sp2 l, false⟩
def sum2S1 (ps : List Pg2) (ks : List Fr) (n z : Int) (c : Nat) (tl : List Fp6) : St := mkSt 67 [(0, rwV .g2 0 ps), (1, rwV .fr 1 ks), (4, ptrV 2), (5, vI n), (6, .one (.c (.slc 3 0 c 576 (.of 0) false))), (19, .one (.c (.slc 0 0 n.toNat 25 (.of 0) false))), (20, vI n), (21, vI z)] [rwHE .g2 ps, rwHE .fr ks, own 54 zerosG2, ownTab2 tl]
theorem sum2_round1 (lf : Pg2 → Fp6) (tb : Fp6 → Tab .sp2) (tw : Fp6 → Fp6) (pl : Fp6 → Fp6 → Fp6) (ly : Fp6 → Pg2) (ps : List Pg2) (ks : List Fr) (n z : Int) (c : Nat) (tl : List Fp6) : roundP (En (sum2K lf tb tw pl ly)) 300 (sum2B 0) (sum2S1 ps ks n z c tl) (following [0, 1, 4, 5, 6, 19, 20, 21] [0, 1, 2] [6]) =
  (.br (decide (z < n))
    (.vc ((0 ≤ z ∧ z < (↑n.toNat : Int)) ∧ 0 + n.toNat * 25 ≤ (rowsC RK.g2 ps).length ∧ 0 < 25 ∧ 0 = 0)
      (.vc (0 + z.toNat < ps.length)
        (.vc ((0 + c * 576 ≤ (rowsC RK.sp2 tl).length ∧ 0 = 0) ∧ c + 1 ≤ 9223372036854775807 ∧ (c + 1) * 4608 ≤ 140737488355328)
          (.leaf ((.normal, mkSt 67 [(0, .one (.c (.slc 0 0 (ps.length) 25 (.of 0) false))), (1, .one (.c (.slc 1 0 (ks.length) 4 (.of 0) false))), (4, .one (.c (.ptr 2 0))), (5, .one (.c (.int .i64 (n)))), (6, .one (.c (.slc 3 0 (c + 1) 576 (.of 0) false))), (19, .one (.c (.slc 0 0 (n.toNat) 25 (.of 0) false))), (20, .one (.c (.int .i64 (n)))), (21, .one (.c (.int .i64 (IntKind.i64.wrap (z + 1)))))] [.live ⟨false, 0, 25, (.rows .g2 (ps : List Pg2)), false⟩, .live ⟨false, 0, 4, (.rows .fr (ks : List Fr)), false⟩, .live ⟨true, 54, 0, (.row [(.lit .u64 0), (.lit .u64 0), (.lit .u64 0), (.lit .u64 0), (.lit .u64 0), (.lit .u64 0), (.lit .u64 0), (.lit .u64 0), (.lit .u64 0), (.lit .u64 0), (.lit .u64 0), (.lit .u64 0), (.lit .u64 0), (.lit .u64 0), (.lit .u64 0), (.lit .u64 0), (.lit .u64 0), (.lit .u64 0), (.lit .u64 0), (.lit .u64 0), (.lit .u64 0), (.lit .u64 0), (.lit .u64 0), (.lit .u64 0), .ff]), false⟩, .live ⟨true, 110, 576, (.rows .sp2 (List.take (mulNn c (576 / 36)) (List.drop 0 tl) ++ [(tb (lf (ps.getD (0 + z.toNat) pg20))).xs.getD 0 { c0 := fp20, c1 := fp20, c2 := fp20 }, (tb (lf (ps.getD (0 + z.toNat) pg20))).xs.getD 1 { c0 := fp20, c1 := fp20, c2 := fp20 }, (tb (lf (ps.getD (0 + z.toNat) pg20))).xs.getD 2 { c0 := fp20, c1 := fp20, c2 := fp20 }, (tb (lf (ps.getD (0 + z.toNat) pg20))).xs.getD 3 { c0 := fp20, c1 := fp20, c2 := fp20 }, (tb (lf (ps.getD (0 + z.toNat) pg20))).xs.getD 4 { c0 := fp20, c1 := fp20, c2 := fp20 }, (tb (lf (ps.getD (0 + z.toNat) pg20))).xs.getD 5 { c0 := fp20, c1 := fp20, c2 := fp20 }, (tb (lf (ps.getD (0 + z.toNat) pg20))).xs.getD 6 { c0 := fp20, c1 := fp20, c2 := fp20 }, (tb (lf (ps.getD (0 + z.toNat) pg20))).xs.getD 7 { c0 := fp20, c1 := fp20, c2 := fp20 }, (tb (lf (ps.getD (0 + z.toNat) pg20))).xs.getD 8 { c0 := fp20, c1 := fp20, c2 := fp20 }, (tb (lf (ps.getD (0 + z.toNat) pg20))).xs.getD 9 { c0 := fp20, c1 := fp20, c2 := fp20 }, (tb (lf (ps.getD (0 + z.toNat) pg20))).xs.getD 10 { c0 := fp20, c1 := fp20, c2 := fp20 }, (tb (lf (ps.getD (0 + z.toNat) pg20))).xs.getD 11 { c0 := fp20, c1 := fp20, c2 := fp20 }, (tb (lf (ps.getD (0 + z.toNat) pg20))).xs.getD 12 { c0 := fp20, c1 := fp20, c2 := fp20 }, (tb (lf (ps.getD (0 + z.toNat) pg20))).xs.getD 13 { c0 := fp20, c1 := fp20, c2 := fp20 }, (tb (lf (ps.getD (0 + z.toNat) pg20))).xs.getD 14 { c0 := fp20, c1 := fp20, c2 := fp20 }, (tb (lf (ps.getD (0 + z.toNat) pg20))).xs.getD 15 { c0 := fp20, c1 := fp20, c2 := fp20 }] : List Fp6)), false⟩]))))))
    (.leaf ((.exit 0, mkSt 67 [(0, .one (.c (.slc 0 0 (ps.length) 25 (.of 0) false))), (1, .one (.c (.slc 1 0 (ks.length) 4 (.of 0) false))), (4, .one (.c (.ptr 2 0))), (5, .one (.c (.int .i64 (n)))), (6, .one (.c (.slc 3 0 (c) 576 (.of 0) false))), (19, .one (.c (.slc 0 0 (n.toNat) 25 (.of 0) false))), (20, .one (.c (.int .i64 (n)))), (21, .one (.c (.int .i64 (z))))] [.live ⟨false, 0, 25, (.rows .g2 (ps : List Pg2)), false⟩, .live ⟨false, 0, 4, (.rows .fr (ks : List Fr)), false⟩, .live ⟨true, 54, 0, (.row [(.lit .u64 0), (.lit .u64 0), (.lit .u64 0), (.lit .u64 0), (.lit .u64 0), (.lit .u64 0), (.lit .u64 0), (.lit .u64 0), (.lit .u64 0), (.lit .u64 0), (.lit .u64 0), (.lit .u64 0), (.lit .u64 0), (.lit .u64 0), (.lit .u64 0), (.lit .u64 0), (.lit .u64 0), (.lit .u64 0), (.lit .u64 0), (.lit .u64 0), (.lit .u64 0), (.lit .u64 0), (.lit .u64 0), (.lit .u64 0), .ff]), false⟩, .live ⟨true, 110, 576, (.rows .sp2 (tl : List Fp6)), false⟩])))) := by kernel_rfl
theorem sum2_mid (lf : Pg2 → Fp6) (tb : Fp6 → Tab .sp2) (tw : Fp6 → Fp6) (pl : Fp6 → Fp6 → Fp6) (ly : Fp6 → Pg2) (ps : List Pg2) (ks : List Fr) (n z : Int) (c : Nat) (tl : List Fp6) : stageG (En (sum2K lf tb tw pl ly)) 300 ((sum2C.drop 4).take 3) (sum2S1 ps ks n z c tl) [1, 4, 5, 6, 9, 10] [1, 2, 3, 4] [(1, .as), (4, .as), (5, .as), (6, .as), (9, .as), (10, .int)] [.as, .as, .as, .one .sp2] [] =
  (.leaf (mkSt 67 [(1, .one (.c (.slc 0 0 (ks.length) 4 (.of 0) false))), (4, .one (.c (.ptr 1 0))), (5, .one (.c (.int .i64 (n)))), (6, .one (.c (.slc 2 0 (c) 576 (.of 0) false))), (9, .one (.c (.ptr 3 0))), (10, .one (.c (.int .i64 256)))] [.live ⟨false, 0, 4, (.rows .fr (ks : List Fr)), false⟩, .live ⟨true, 54, 0, (.row [(.lit .u64 0), (.lit .u64 0), (.lit .u64 0), (.lit .u64 0), (.lit .u64 0), (.lit .u64 0), (.lit .u64 0), (.lit .u64 0), (.lit .u64 0), (.lit .u64 0), (.lit .u64 0), (.lit .u64 0), (.lit .u64 0), (.lit .u64 0), (.lit .u64 0), (.lit .u64 0), (.lit .u64 0), (.lit .u64 0), (.lit .u64 0), (.lit .u64 0), (.lit .u64 0), (.lit .u64 0), (.lit .u64 0), (.lit .u64 0), .ff]), false⟩, .live ⟨true, 110, 576, (.rows .sp2 (tl : List Fp6)), false⟩, .live ⟨true, 97, 0, (.row (Row.cs ({ c0 := { c0 := { l0 := UInt64.ofNat 0, l1 := UInt64.ofNat 0, l2 := UInt64.ofNat 0, l3 := UInt64.ofNat 0, l4 := UInt64.ofNat 0, l5 := UInt64.ofNat 0 }, c1 := { l0 := UInt64.ofNat 0, l1 := UInt64.ofNat 0, l2 := UInt64.ofNat 0, l3 := UInt64.ofNat 0, l4 := UInt64.ofNat 0, l5 := UInt64.ofNat 0 } }, c1 := { c0 := { l0 := UInt64.ofNat 0, l1 := UInt64.ofNat 0, l2 := UInt64.ofNat 0, l3 := UInt64.ofNat 0, l4 := UInt64.ofNat 0, l5 := UInt64.ofNat 0 }, c1 := { l0 := UInt64.ofNat 0, l1 := UInt64.ofNat 0, l2 := UInt64.ofNat 0, l3 := UInt64.ofNat 0, l4 := UInt64.ofNat 0, l5 := UInt64.ofNat 0 } }, c2 := { c0 := { l0 := UInt64.ofNat 0, l1 := UInt64.ofNat 0, l2 := UInt64.ofNat 0, l3 := UInt64.ofNat 0, l4 := UInt64.ofNat 0, l5 := UInt64.ofNat 0 }, c1 := { l0 := UInt64.ofNat 0, l1 := UInt64.ofNat 0, l2 := UInt64.ofNat 0, l3 := UInt64.ofNat 0, l4 := UInt64.ofNat 0, l5 := UInt64.ofNat 0 } } } : Fp6))), false⟩])) := by kernel_rfl
def sum2S2 (ks : List Fr) (n z : Int) (c : Nat) (tl : List Fp6) (o : Fp6) : St := mkSt 67 [(1, rwV .fr 0 ks), (4, ptrV 1), (5, vI n), (6, .one (.c (.slc 2 0 c 576 (.of 0) false))), (9, ptrV 3), (10, vI z)] [rwHE .fr ks, own 54 zerosG2, ownTab2 tl, own 97 (Row.cs o)]
theorem sum2_top (lf : Pg2 → Fp6) (tb : Fp6 → Tab .sp2) (tw : Fp6 → Fp6) (pl : Fp6 → Fp6 → Fp6) (ly : Fp6 → Pg2) (ks : List Fr) (n z : Int) (c : Nat) (tl : List Fp6) (o : Fp6) : segT (En (sum2K lf tb tw pl ly)) kg2.rs.out 300 Try.f52 ((sum2C.drop 7).take 6) (sum2S2 ks n z c tl o) [1, 4, 5, 6, 9, 10, 43, 44] [0, 1, 2, 3] [(1, .as), (4, .as), (5, .as), (6, .as), (9, .as), (10, .as), (43, .as), (44, .int)] [.as, .as, .as, .as] [] =
  (.br (decide (IntKind.i64.wrap (z - 4) < 0))
    (.leaf (.inr (some ((ly o, .t)))))
    (.leaf (.inl (mkSt 67 [(1, .one (.c (.slc 0 0 (ks.length) 4 (.of 0) false))), (4, .one (.c (.ptr 1 0))), (5, .one (.c (.int .i64 (n)))), (6, .one (.c (.slc 2 0 (c) 576 (.of 0) false))), (9, .one (.c (.ptr 3 0))), (10, .one (.c (.int .i64 (IntKind.i64.wrap (z - 4))))), (43, .one (.c (.int .i64 (n)))), (44, .one (.c (.int .i64 0)))] [.live ⟨false, 0, 4, (.rows .fr (ks : List Fr)), false⟩, .live ⟨true, 54, 0, (.row [(.lit .u64 0), (.lit .u64 0), (.lit .u64 0), (.lit .u64 0), (.lit .u64 0), (.lit .u64 0), (.lit .u64 0), (.lit .u64 0), (.lit .u64 0), (.lit .u64 0), (.lit .u64 0), (.lit .u64 0), (.lit .u64 0), (.lit .u64 0), (.lit .u64 0), (.lit .u64 0), (.lit .u64 0), (.lit .u64 0), (.lit .u64 0), (.lit .u64 0), (.lit .u64 0), (.lit .u64 0), (.lit .u64 0), (.lit .u64 0), .ff]), false⟩, .live ⟨true, 110, 576, (.rows .sp2 (tl : List Fp6)), false⟩, .live ⟨true, 97, 0, (.row (Row.cs (tw (tw (tw (tw o))) : Fp6))), false⟩])))) := by kernel_rfl
def sum2S3 (ks : List Fr) (n z j : Int) (c : Nat) (tl : List Fp6) (o : Fp6) : St := mkSt 67 [(1, rwV .fr 0 ks), (4, ptrV 1), (5, vI n), (6, .one (.c (.slc 2 0 c 576 (.of 0) false))), (9, ptrV 3), (10, vI z), (43, vI n), (44, vI j)] [rwHE .fr ks, own 54 zerosG2, ownTab2 tl, own 97 (Row.cs o)]
def sp02 : Fp6 := ⟨fp20, fp20, fp20⟩
theorem sum2_round3 (lf : Pg2 → Fp6) (tb : Fp6 → Tab .sp2) (tw : Fp6 → Fp6) (pl : Fp6 → Fp6 → Fp6) (ly : Fp6 → Pg2) (ks : List Fr) (n z j : Int) (c : Nat) (tl : List Fp6) (o : Fp6) : roundT (En (sum2K lf tb tw pl ly)) 300 (sum2B 2) (sum2S3 ks n z j c tl o) (same [1, 4, 5, 6, 9, 10, 43, 44] [0, 1, 2, 3]) =
    .br (decide (j < n))
      (.vc ((0 ≤ j ∧ j < (ks.length : Int)) ∧ 0 + ks.length * 4 ≤ (rowsC RK.fr ks).length ∧ 0 < 4 ∧ 0 = 0)
        (.vc ((0 ≤ IntKind.i64.wrap (z.tdiv 64) ∧ IntKind.i64.wrap (z.tdiv 64) < 4) ∧ (0 + j.toNat) * 4 < (rowsC RK.fr ks).length)
          (.vc (0 + j.toNat < ks.length ∧ (IntKind.i64.wrap (z.tdiv 64)).toNat < 4)
            (.vc ((0 ≤ j ∧ j < (c : Int)) ∧ 0 + c * 576 ≤ (rowsC RK.sp2 tl).length ∧ 0 < 576 ∧ 0 = 0)
              (.vc ((0 ≤ ((digU (ks.getD (0 + j.toNat) fr0) z).toNat : Int) ∧ ((digU (ks.getD (0 + j.toNat) fr0) z).toNat : Int) < 16) ∧ (0 + j.toNat) * 576 < (rowsC RK.sp2 tl).length)
                (.vc ((0 + j.toNat) * 16 + ((digU (ks.getD (0 + j.toNat) fr0) z).toNat : Int).toNat < tl.length)
                  (.leaf (.normal, sum2S3 ks n z (IntKind.i64.wrap (j + 1)) c tl (pl o (tl.getD ((0 + j.toNat) * 16 + ((digU (ks.getD (0 + j.toNat) fr0) z).toNat : Int).toNat) sp02))))))))))
      (.leaf (.exit 4, sum2S3 ks n z j c tl o)) := by kernel_rfl
theorem sum2_back (T : Table) (ks : List Fr) (n z j : Int) (c : Nat) (tl : List Fp6) (o : Fp6) : iterT (En T) kg2.rs.out 100 Try.f52 [.goto 0] (sum2S3 ks n z j c tl o) [1, 4, 5, 6, 9, 10] [0, 1, 2, 3] = .leaf (.inl (.goto 0, sum2S2 ks n z c tl o)) := by kernel_rfl
def sumIn2 (pl : Fp6 → Fp6 → Fp6) (tl : List Fp6) (ks : List Fr) (z : Int) : Nat → Fp6 → Fp6
  | 0, o => o
  | j + 1, o => pl (sumIn2 pl tl ks z j o) (tl.getD (j * 16 + (digU (ks.getD j fr0) z).toNat) sp02)
def sumOut2 (tw : Fp6 → Fp6) (pl : Fp6 → Fp6 → Fp6) (tl : List Fp6) (ks : List Fr) (n : Nat) : Nat → Fp6 → Fp6
  | 0, o => o
  | m + 1, o => sumOut2 tw pl tl ks n m (sumIn2 pl tl ks ((4 * m : Nat) : Int) n (tw (tw (tw (tw o)))))
def tabs2 (f : Pg2 → Tab .sp2) (ps : List Pg2) : List Fp6 := ps.flatMap fun p => (f p).xs
theorem tabs2_len (f : Pg2 → Tab .sp2) : ∀ ps : List Pg2, (tabs2 f ps).length = ps.length * 16
  | [] => rfl
  | p :: ps => by
    have := tabs2_len f ps
    have h16 : (f p).xs.length = 16 := (f p).len
    simp only [tabs2, List.flatMap_cons, List.length_append, List.length_cons] at this ⊢
    rw [this, h16]
    omega
theorem tabs2_snoc (f : Pg2 → Tab .sp2) (ps : List Pg2) (p : Pg2) : tabs2 f (ps ++ [p]) = tabs2 f ps ++ sixteen (fun i => (f p).xs.getD i sp02) := by
  have := Tab.cells (f p)
  simp only [tabs2, List.flatMap_append, List.flatMap_cons, List.flatMap_nil, List.append_nil]
  exact congrArg _ this.symm
abbrev sumN2 (ps : List Pg2) (ks : List Fr) : Nat := min ks.length ps.length
def tab2V (p : Pg2) : Tab .sp2 := tabV2 plusG2 (liftG2 p)
def sumG2 (ps : List Pg2) (ks : List Fr) : Pg2 := laysG2 (sumOut2 twiceG2 plusG2 (tabs2 tab2V (ps.take (sumN2 ps ks))) ks (sumN2 ps ks) 64 zeroFp6)
theorem wholeTab2 (c : Nat) (tl : List Fp6) (h : tl.length = c * 16) : List.take (mulNn c 16) (List.drop 0 tl) = tl := by
  rw [mulNn_eq, List.drop_zero, ← h, List.take_length]
theorem sum2K_ok : EnvOk (En (sum2K liftG2 (tabV2 plusG2) twiceG2 plusG2 laysG2)) := En_ok (.cons liftG2_ok (.cons tableG2_ok (.cons twiceG2_ok (.cons plusG2_ok (.cons laysG2_ok .nil)))))
theorem sum2_ahead (ps : List Pg2) (ks : List Fr) (hp : ps.length < topLen) (hk : ks.length < topLen) (hs : sumN2 ps ks < 4294967296) :
    DoesL (En (sum2K liftG2 (tabV2 plusG2) twiceG2 plusG2 laysG2)) (sum2C.take 7) (mkSt 67 [(0, rwV .g2 0 ps), (1, rwV .fr 1 ks), (4, ptrV 2)] [rwHE .g2 ps, rwHE .fr ks, own 54 zerosG2])
      fun r => match r.1 with | .normal => r.2 = sum2S2 ks (sumN2 ps ks : Nat) 256 (sumN2 ps ks) (tabs2 tab2V (ps.take (sumN2 ps ks))) zeroFp6 | _ => False := by
  have hE := sum2K_ok
  have hN : sumN2 ps ks ≤ ps.length := Nat.min_le_right _ _
  refine DoesL.stageG hE 300 3 _ _ _ _ _ ((congrArg (fun c => stageG _ 300 c _ _ _ _ _ _) (List.take_take (i := 3) (j := 7) (l := sum2C))).trans (sum2_start liftG2 (tabV2 plusG2) twiceG2 plusG2 laysG2 ps ks)) ?_
  rw [minmax_min]
  refine ⟨⟨by rw [rowsC_g2]; omega, by decide⟩, fun _ => ⟨⟨by rw [rowsC_fr]; omega, by decide⟩, fun _ => ⟨⟨by omega, by omega, by rw [Int.toNat_natCast]; exact hN, by rw [rowsC_g2]; omega, by decide, .inl rfl, rfl, rfl⟩, fun _ => ⟨⟨by rw [rowsC_g2, Int.toNat_natCast, Nat.sub_zero]; have := Nat.mul_le_mul_right 25 hN; omega, by decide⟩, ?_⟩⟩⟩⟩
  intro _
  show DoesL _ _ (sum2S1 ps ks ((sumN2 ps ks : Nat) : Int) ((0 : Nat) : Int) 0 (tabs2 tab2V (ps.take 0))) _
  refine DoesL.blockLoop (B := sum2B 0) (rest := (sum2C.take 7).drop 4) (id := 0) (by kernel_rfl) (fun j : { j : Nat // j ≤ sumN2 ps ks } => sum2S1 ps ks ((sumN2 ps ks : Nat) : Int) (j.1 : Int) j.1 (tabs2 tab2V (ps.take j.1))) (fun j => sumN2 ps ks - j.1) ⟨0, Nat.zero_le _⟩ fun j => ?_
  obtain ⟨j, hj⟩ := j
  show Does _ _ (sum2S1 ps ks ((sumN2 ps ks : Nat) : Int) (j : Int) j (tabs2 tab2V (ps.take j))) _
  have hlen : (tabs2 tab2V (ps.take j)).length = j * 16 := by rw [tabs2_len, List.length_take, Nat.min_eq_left (by omega)]
  refine Does.roundP hE 300 _ (sum2_round1 liftG2 (tabV2 plusG2) twiceG2 plusG2 laysG2 ps ks ((sumN2 ps ks : Nat) : Int) (j : Int) j (tabs2 tab2V (ps.take j))) ⟨fun h => ?_, fun h => ?_⟩
  · simp only [decide_eq_true_eq] at h
    have hj1 : j < sumN2 ps ks := by omega
    refine ⟨⟨⟨by omega, by rw [Int.toNat_natCast]; omega⟩, by rw [rowsC_g2, Int.toNat_natCast]; have := Nat.mul_le_mul_right 25 hN; omega, by decide, rfl⟩, fun _ => ⟨by rw [Int.toNat_natCast]; omega, fun _ => ⟨⟨⟨by rw [rowsC_sp2, hlen]; omega, rfl⟩, by omega, by omega⟩, fun _ => ?_⟩⟩⟩
    refine ⟨⟨j + 1, hj1⟩, by show sumN2 ps ks - (j + 1) < sumN2 ps ks - j; omega, ?_⟩
    rw [wrap_succ j (by omega), Int.toNat_natCast, Nat.zero_add, wholeTab2 j _ hlen]
    have e1 : ps.take (j + 1) = ps.take j ++ [ps.getD j pg20] := by
      rw [List.take_add_one, List.getD]
      rw [List.getElem?_eq_getElem (by omega)]
      rfl
    have e2 : tabs2 tab2V (ps.take (j + 1)) = tabs2 tab2V (ps.take j) ++ sixteen (fun i => (tab2V (ps.getD j pg20)).xs.getD i sp02) := by rw [e1, tabs2_snoc]
    show _ = sum2S1 ps ks ((sumN2 ps ks : Nat) : Int) ((j + 1 : Nat) : Int) (j + 1) (tabs2 tab2V (ps.take (j + 1)))
    rw [e2]
    rfl
  · simp only [decide_eq_false_iff_not] at h
    obtain rfl : j = sumN2 ps ks := by omega
    refine ⟨rfl, ?_⟩
    refine DoesL.stageG hE 300 3 _ _ _ _ _ ((congrArg (fun c => stageG _ 300 c _ _ _ _ _ _) (show List.take 3 (List.drop 4 (List.take 7 sum2C)) = (sum2C.drop 4).take 3 by kernel_rfl)).trans (sum2_mid liftG2 (tabV2 plusG2) twiceG2 plusG2 laysG2 ps ks ((sumN2 ps ks : Nat) : Int) ((sumN2 ps ks : Nat) : Int) (sumN2 ps ks) (tabs2 tab2V (ps.take (sumN2 ps ks))))) ?_
    exact ⟨_, Wk.refl _, rfl⟩
abbrev Sum2Ok (ps : List Pg2) (ks : List Fr) : Type := { q : Nat × Fp6 // q.1 ≤ 64 ∧ laysG2 (sumOut2 twiceG2 plusG2 (tabs2 tab2V (ps.take (sumN2 ps ks))) ks (sumN2 ps ks) q.1 q.2) = sumG2 ps ks }
def sum2I (ps : List Pg2) (ks : List Fr) (q : Sum2Ok ps ks) : St := sum2S2 ks (sumN2 ps ks : Nat) ((4 * q.1.1 : Nat) : Int) (sumN2 ps ks) (tabs2 tab2V (ps.take (sumN2 ps ks))) q.1.2
def sum2_i0 (ps : List Pg2) (ks : List Fr) : Sum2Ok ps ks := ⟨(64, zeroFp6), Nat.le_refl _, by unfold sumG2; rfl⟩
theorem sum2_i0_eq (ps : List Pg2) (ks : List Fr) : sum2I ps ks (sum2_i0 ps ks) = sum2S2 ks (sumN2 ps ks : Nat) 256 (sumN2 ps ks) (tabs2 tab2V (ps.take (sumN2 ps ks))) zeroFp6 := by
  unfold sum2I
  have e : ((4 * (sum2_i0 ps ks).1.1 : Nat) : Int) = 256 := by
    show ((4 * 64 : Nat) : Int) = 256
    decide
  rw [e]
  rfl
theorem sum2_outer (ps : List Pg2) (ks : List Fr) (hp : ps.length < topLen) (hk : ks.length < topLen) (hf : ps.length < 4294967296) (m : Nat) (hm : m ≤ 64) (o : Fp6) (tl : List Fp6) (htl : tabs2 tab2V (ps.take (sumN2 ps ks)) = tl)
    (hq : laysG2 (sumOut2 twiceG2 plusG2 tl ks (sumN2 ps ks) m o) = sumG2 ps ks) :
    DoesL (En (sum2K liftG2 (tabV2 plusG2) twiceG2 plusG2 laysG2)) (sum2C.drop 7) (sum2S2 ks (sumN2 ps ks : Nat) ((4 * m : Nat) : Int) (sumN2 ps ks) tl o)
      (Within (En (sum2K liftG2 (tabV2 plusG2) twiceG2 plusG2 laysG2)) Try.f52 kg2.rs.out (sumG2 ps ks) (Wn fun r => match r.1 with | .goto l' => l' = 0 ∧ ∃ j : Sum2Ok ps ks, j.1.1 < m ∧ r.2 = sum2I ps ks j | _ => False)) := by
    have hE := sum2K_ok
    have hN : sumN2 ps ks ≤ ps.length := Nat.min_le_right _ _
    have hK : sumN2 ps ks ≤ ks.length := Nat.min_le_left _ _
    have hlen : tl.length = sumN2 ps ks * 16 := by rw [← htl, tabs2_len, List.length_take, Nat.min_eq_left hN]
    refine DoesL.segW hE 300 6 _ _ _ _ _ (sum2_top liftG2 (tabV2 plusG2) twiceG2 plusG2 laysG2 ks ((sumN2 ps ks : Nat) : Int) ((4 * m : Nat) : Int) (sumN2 ps ks) tl o) ?_
    rw [IntWalk.i64_in (((4 * m : Nat) : Int) - 4) (by omega)]
    refine ⟨fun h => ?_, fun h => ?_⟩
    · simp only [decide_eq_true_eq] at h
      obtain rfl : m = 0 := by omega
      exact ⟨.t, by rw [← hq]; rfl, trivial⟩
    · simp only [decide_eq_false_iff_not] at h
      obtain ⟨m', rfl⟩ : ∃ m', m = m' + 1 := ⟨m - 1, by omega⟩
      rw [show ((4 * (m' + 1) : Nat) : Int) - 4 = ((4 * m' : Nat) : Int) by omega]
      simp only [sumOut2] at hq
      obtain ⟨o4, ho4⟩ : ∃ o4, twiceG2 (twiceG2 (twiceG2 (twiceG2 o))) = o4 := ⟨_, rfl⟩
      rw [ho4] at hq ⊢
      show DoesL _ _ (sum2S3 ks (sumN2 ps ks : Nat) ((4 * m' : Nat) : Int) ((0 : Nat) : Int) (sumN2 ps ks) tl (sumIn2 plusG2 tl ks ((4 * m' : Nat) : Int) 0 o4)) _
      refine DoesL.blockLoop (B := sum2B 2) (rest := [.goto 0]) (id := 4) (by kernel_rfl) (fun j : { j : Nat // j ≤ sumN2 ps ks } => sum2S3 ks (sumN2 ps ks : Nat) ((4 * m' : Nat) : Int) (j.1 : Int) (sumN2 ps ks) tl (sumIn2 plusG2 tl ks ((4 * m' : Nat) : Int) j.1 o4)) (fun j => sumN2 ps ks - j.1) ⟨0, Nat.zero_le _⟩ fun j => ?_
      obtain ⟨j, hj⟩ := j
      show Does _ _ (sum2S3 ks (sumN2 ps ks : Nat) ((4 * m' : Nat) : Int) (j : Int) (sumN2 ps ks) tl (sumIn2 plusG2 tl ks ((4 * m' : Nat) : Int) j o4)) _
      refine Does.round hE 300 _ (sum2_round3 liftG2 (tabV2 plusG2) twiceG2 plusG2 laysG2 ks ((sumN2 ps ks : Nat) : Int) ((4 * m' : Nat) : Int) (j : Int) (sumN2 ps ks) tl (sumIn2 plusG2 tl ks ((4 * m' : Nat) : Int) j o4)) ⟨fun h => ?_, fun h => ?_⟩
      · simp only [decide_eq_true_eq] at h
        have hj1 : j < sumN2 ps ks := by omega
        have hw : IntKind.i64.wrap (((4 * m' : Nat) : Int).tdiv 64) = ((4 * m' / 64 : Nat) : Int) := by
          rw [show (((4 * m' : Nat) : Int).tdiv 64) = ((4 * m' / 64 : Nat) : Int) from rfl]
          exact IntWalk.i64_in _ (by omega)
        have hd := digU_lt (ks.getD j fr0) ((4 * m' : Nat) : Int)
        rw [show (0 + ((j : Nat) : Int).toNat) = j by omega, Int.toNat_natCast]
        refine ⟨⟨⟨by omega, by omega⟩, by rw [rowsC_fr]; omega, by decide, rfl⟩, fun _ => ⟨⟨⟨by rw [hw]; omega, by rw [hw]; omega⟩, by rw [rowsC_fr]; omega⟩, fun _ => ⟨⟨by omega, by rw [hw, Int.toNat_natCast]; omega⟩, fun _ => ⟨⟨⟨by omega, by omega⟩, by rw [rowsC_sp2, hlen]; omega, by decide, rfl⟩, fun _ => ?_⟩⟩⟩⟩
        refine ⟨⟨⟨by omega, ?_⟩, by rw [rowsC_sp2, hlen]; omega⟩, fun _ => ⟨?_, fun _ => ?_⟩⟩
        · omega
        · rw [hlen]
          omega
        · refine ⟨⟨j + 1, hj1⟩, by show sumN2 ps ks - (j + 1) < sumN2 ps ks - j; omega, ?_⟩
          rw [wrap_succ j (by omega)]
          rw [sumIn2]
      · simp only [decide_eq_false_iff_not] at h
        obtain rfl : j = sumN2 ps ks := by omega
        refine ⟨rfl, ?_⟩
        refine DoesL.mono (DoesL.iter (o := kg2.rs.out) (fn := Try.f52) (x := sumG2 ps ks) (R := fun r => match r.1 with | .goto l' => l' = 0 ∧ ∃ j : Sum2Ok ps ks, j.1.1 < m' + 1 ∧ r.2 = sum2I ps ks j | _ => False) hE 100 _ _ (sum2_back _ ks _ _ _ _ _ _) ?_) fun r hr => hr
        refine ⟨rfl, ⟨(m', sumIn2 plusG2 tl ks ((4 * m' : Nat) : Int) (sumN2 ps ks) o4), by show m' ≤ 64; omega, by rw [htl]; exact hq⟩, Nat.lt_succ_self _, ?_⟩
        exact congrArg (fun t => sum2S2 ks (sumN2 ps ks : Nat) ((4 * m' : Nat) : Int) (sumN2 ps ks) t (sumIn2 plusG2 tl ks ((4 * m' : Nat) : Int) (sumN2 ps ks) o4)) htl.symm
abbrev few2 (xs : List Pg2) : Prop := xs.length < 4294967296
theorem sumG2_ok : CallOk Try.prog 52 (K2 ((argRw .g2).such few2) (argRw .fr) kg2.rs.res sumG2) :=
  Go.Proofs.Ytchlamfdofpolaa.G2 (E := En (sum2K liftG2 (tabV2 plusG2) twiceG2 plusG2 laysG2)) Try.func52 (c := codeOf Try.f52) (by kernel_rfl) (bodied Try.func52 (by kernel_rfl) (by kernel_rfl)) ((inpRw .g2).such few2) (inpRw .fr) kg2.rs.out sumG2 fun ps ks hp hk => by
    have hE := sum2K_ok
    obtain ⟨hp, hf⟩ := hp
    have hp : ps.length < topLen := hp
    have hk : ks.length < topLen := hk
    have hf : ps.length < 4294967296 := hf
    have hN : sumN2 ps ks ≤ ps.length := Nat.min_le_right _ _
    have hK : sumN2 ps ks ≤ ks.length := Nat.min_le_left _ _
    refine DoesL.stageE hE 100 1 [0, 1, 4] [0, 1, 2] (sum2_front _ ps ks) ?_
    refine DoesL.scopeFnG (body := scopeOf Try.f52) (rest := restOf Try.f52) (tail := []) (l := 0) hE (by kernel_rfl) (by kernel_rfl) 7 (by kernel_rfl) (sum2I ps ks) (fun q => q.1.1)
      (sum2_i0 ps ks) (by rw [sum2_i0_eq]; exact sum2_ahead ps ks hp hk (by omega)) fun q => ?_
    obtain ⟨⟨m, o⟩, hm, hq⟩ := q
    exact sum2_outer ps ks hp hk hf m hm o _ rfl hq
end Go.Proofs.Ytchlamfdofpolaa

set_option linter.unusedSimpArgs false
set_option linter.unusedVariables false
namespace Go.Proofs.Ytchlamfdofpolaa
open Go.RowKit
noncomputable abbrev ss2C : List Code := flat (codeOf Try.f14)
noncomputable abbrev ss2B (k : Nat) : Code := loopAt Try.f14 k
noncomputable abbrev ss2E (b : Bool) (mF : Fr → Bool) (g : Pg2) (tF : Pg2 → Fr → Pg2) (aF uF : Fr → Fr → Fr) (sF : List Pg2 → List Fr → Pg2) : Env := En [(36, K0 kBool.rs.res b), (16, Krb mF), (46, K0 kg2.rs.res g), (43, K2 kg2.arg (kRow Fr).arg kg2.rs.res tF), (31, Kr2 aF), (32, Kr2 uF), (52, K2 ((argRw .g2).such few2) (argRw .fr) kg2.rs.res sF)]
def ownPts2 (l : List Pg2) : HE := .live ⟨true, 54, 25, .rows .g2 l, false⟩
def ss2A (ks ms : List Fr) (z : Int) (c : Nat) (pl : List Pg2) : St := mkSt 74 [(0, rwV .fr 0 ks), (1, rwV .fr 1 ms), (5, .one (.c (.slc 2 0 c 25 (.of 0) false))), (6, vI z)] [rwHE .fr ks, rwHE .fr ms, ownPts2 pl]
def ss2S (ks ms : List Fr) (z : Int) (c : Nat) (pl : List Pg2) (s : Fr) : St := mkSt 74 [(0, rwV .fr 0 ks), (1, rwV .fr 1 ms), (5, .one (.c (.slc 2 0 c 25 (.of 0) false))), (7, ptrV 3), (8, vI z)] [rwHE .fr ks, rwHE .fr ms, ownPts2 pl, own 24 (Row.cs s)]
theorem ss2_start (b : Bool) (mF : Fr → Bool) (g : Pg2) (tF : Pg2 → Fr → Pg2) (aF uF : Fr → Fr → Fr) (sF : List Pg2 → List Fr → Pg2) (ks ms : List Fr) : segT (ss2E b mF g tF aF uF sF) oB 300 Try.f14 (ss2C.take 7) (startSt Try.f14 [rwV .fr 0 ks, rwV .fr 1 ms] [rwHE .fr ks, rwHE .fr ms]) [0, 1, 5, 6] [0, 1] [(0, .as), (1, .as), (5, .nilE 2 25), (6, .int)] [.as, .as] [(54, .rows .g2)] =
  (.br (!(b))
    (.leaf (.inr (some ((false, .t)))))
    (.vc (0 + ks.length * 4 ≤ (rowsC RK.fr ks).length ∧ 0 < 4)
      (.br (decide ((↑ks.length : Int) > 5))
        (.leaf (.inr (some ((true, .t)))))
        (.vc (0 + ms.length * 4 ≤ (rowsC RK.fr ms).length ∧ 0 < 4)
          (.br (decide ((↑ms.length : Int) > 6))
            (.leaf (.inr (some ((true, .t)))))
            (.leaf (.inl (mkSt 74 [(0, .one (.c (.slc 0 0 (ks.length) 4 (.of 0) false))), (1, .one (.c (.slc 1 0 (ms.length) 4 (.of 0) false))), (5, .one (.c (.slc 2 0 0 25 (.of 0) false))), (6, .one (.c (.int .i64 0)))] [.live ⟨false, 0, 4, (.rows .fr (ks : List Fr)), false⟩, .live ⟨false, 0, 4, (.rows .fr (ms : List Fr)), false⟩, .live ⟨true, 54, 25, (.rows .g2 ([] : List Pg2)), false⟩])))))))) := by kernel_rfl
theorem ss2_round1 (b : Bool) (mF : Fr → Bool) (g : Pg2) (tF : Pg2 → Fr → Pg2) (aF uF : Fr → Fr → Fr) (sF : List Pg2 → List Fr → Pg2) (ks ms : List Fr) (z : Int) (c : Nat) (pl : List Pg2) : iterP (ss2E b mF g tF aF uF sF) oB 300 Try.f14 [ss2B 0] (ss2A ks ms z c pl) (following [0, 1, 5, 6] [0, 1] [5]) =
  (.vc (0 + ks.length * 4 ≤ (rowsC RK.fr ks).length ∧ 0 < 4)
    (.br (decide (z < (↑ks.length : Int)))
      (.vc ((0 ≤ z ∧ z < (↑ks.length : Int)) ∧ 0 + ks.length * 4 ≤ (rowsC RK.fr ks).length ∧ 0 < 4 ∧ 0 = 0)
        (.vc (0 + z.toNat < ks.length)
          (.br (!(mF (ks.getD (0 + z.toNat) { l0 := 0, l1 := 0, l2 := 0, l3 := 0 })))
            (.leaf (.inr (some ((true, .t)))))
            (.vc ((0 ≤ z ∧ z < (↑ks.length : Int)) ∧ 0 + ks.length * 4 ≤ (rowsC RK.fr ks).length ∧ 0 < 4 ∧ 0 = 0)
              (.vc (0 + z.toNat < ks.length)
                (.vc ((0 + c * 25 ≤ (rowsC RK.g2 pl).length ∧ 0 = 0) ∧ c + 1 ≤ 9223372036854775807 ∧ (c + 1) * 200 ≤ 140737488355328)
                  (.leaf (.inl ((.normal, mkSt 74 [(0, .one (.c (.slc 0 0 (ks.length) 4 (.of 0) false))), (1, .one (.c (.slc 1 0 (ms.length) 4 (.of 0) false))), (5, .one (.c (.slc 2 0 (c + 1) 25 (.of 0) false))), (6, .one (.c (.int .i64 (IntKind.i64.wrap (z + 1)))))] [.live ⟨false, 0, 4, (.rows .fr (ks : List Fr)), false⟩, .live ⟨false, 0, 4, (.rows .fr (ms : List Fr)), false⟩, .live ⟨true, 54, 25, (.rows .g2 (List.take (mulNn c (25 / 25)) (List.drop 0 pl) ++ [tF g (ks.getD (0 + z.toNat) { l0 := 0, l1 := 0, l2 := 0, l3 := 0 })] : List Pg2)), false⟩]))))))))))
      (.leaf (.inl ((.exit 0, mkSt 74 [(0, .one (.c (.slc 0 0 (ks.length) 4 (.of 0) false))), (1, .one (.c (.slc 1 0 (ms.length) 4 (.of 0) false))), (5, .one (.c (.slc 2 0 (c) 25 (.of 0) false))), (6, .one (.c (.int .i64 (z))))] [.live ⟨false, 0, 4, (.rows .fr (ks : List Fr)), false⟩, .live ⟨false, 0, 4, (.rows .fr (ms : List Fr)), false⟩, .live ⟨true, 54, 25, (.rows .g2 (pl : List Pg2)), false⟩])))))) := by kernel_rfl
theorem ss2_mid (b : Bool) (mF : Fr → Bool) (g : Pg2) (tF : Pg2 → Fr → Pg2) (aF uF : Fr → Fr → Fr) (sF : List Pg2 → List Fr → Pg2) (ks ms : List Fr) (z : Int) (c : Nat) (pl : List Pg2) : stageG (ss2E b mF g tF aF uF sF) 300 ((ss2C.drop 8).take 2) (ss2A ks ms z c pl) [0, 1, 5, 7, 8] [0, 1, 2, 3] [(0, .as), (1, .as), (5, .as), (7, .as), (8, .int)] [.as, .as, .as, .one .fr] [] =
  (.leaf (mkSt 74 [(0, .one (.c (.slc 0 0 (ks.length) 4 (.of 0) false))), (1, .one (.c (.slc 1 0 (ms.length) 4 (.of 0) false))), (5, .one (.c (.slc 2 0 (c) 25 (.of 0) false))), (7, .one (.c (.ptr 3 0))), (8, .one (.c (.int .i64 0)))] [.live ⟨false, 0, 4, (.rows .fr (ks : List Fr)), false⟩, .live ⟨false, 0, 4, (.rows .fr (ms : List Fr)), false⟩, .live ⟨true, 54, 25, (.rows .g2 (pl : List Pg2)), false⟩, .live ⟨true, 24, 0, (.row [(.u64 (UInt64.ofNat 0)), (.u64 (UInt64.ofNat 0)), (.u64 (UInt64.ofNat 0)), (.u64 (UInt64.ofNat 0))]), false⟩])) := by kernel_rfl
theorem ss2_round2 (b : Bool) (mF : Fr → Bool) (g : Pg2) (tF : Pg2 → Fr → Pg2) (aF uF : Fr → Fr → Fr) (sF : List Pg2 → List Fr → Pg2) (ks ms : List Fr) (z : Int) (c : Nat) (pl : List Pg2) (s : Fr) : iterP (ss2E b mF g tF aF uF sF) oB 300 Try.f14 [ss2B 1] (ss2S ks ms z c pl s) (fun _ => some ([0, 1, 5, 7, 8], [0, 1, 2, 3])) =
  (.vc (0 + ms.length * 4 ≤ (rowsC RK.fr ms).length ∧ 0 < 4)
    (.br (decide (z < (↑ms.length : Int)))
      (.vc ((0 ≤ z ∧ z < (↑ms.length : Int)) ∧ 0 + ms.length * 4 ≤ (rowsC RK.fr ms).length ∧ 0 < 4 ∧ 0 = 0)
        (.vc (0 + z.toNat < ms.length)
          (.br (!(mF (ms.getD (0 + z.toNat) { l0 := 0, l1 := 0, l2 := 0, l3 := 0 })))
            (.leaf (.inr (some ((true, .t)))))
            (.vc (0 + ks.length * 4 ≤ (rowsC RK.fr ks).length ∧ 0 < 4)
              (.br (decide (z < (↑ks.length : Int)))
                (.vc ((0 ≤ z ∧ z < (↑ks.length : Int)) ∧ 0 + ks.length * 4 ≤ (rowsC RK.fr ks).length ∧ 0 < 4 ∧ 0 = 0)
                  (.vc (0 + z.toNat < ks.length)
                    (.vc ((0 ≤ z ∧ z < (↑ms.length : Int)) ∧ 0 + ms.length * 4 ≤ (rowsC RK.fr ms).length ∧ 0 < 4 ∧ 0 = 0)
                      (.vc (0 + z.toNat < ms.length)
                        (.leaf (.inl ((.normal, mkSt 74 [(0, .one (.c (.slc 0 0 (ks.length) 4 (.of 0) false))), (1, .one (.c (.slc 1 0 (ms.length) 4 (.of 0) false))), (5, .one (.c (.slc 2 0 (c) 25 (.of 0) false))), (7, .one (.c (.ptr 3 0))), (8, .one (.c (.int .i64 (IntKind.i64.wrap (z + 1)))))] [.live ⟨false, 0, 4, (.rows .fr (ks : List Fr)), false⟩, .live ⟨false, 0, 4, (.rows .fr (ms : List Fr)), false⟩, .live ⟨true, 54, 25, (.rows .g2 (pl : List Pg2)), false⟩, .live ⟨true, 24, 0, (.row (Row.cs (aF s (uF (ks.getD (0 + z.toNat) { l0 := 0, l1 := 0, l2 := 0, l3 := 0 }) (ms.getD (0 + z.toNat) { l0 := 0, l1 := 0, l2 := 0, l3 := 0 })) : Fr))), false⟩]))))))))
                (.leaf (.inl ((.normal, mkSt 74 [(0, .one (.c (.slc 0 0 (ks.length) 4 (.of 0) false))), (1, .one (.c (.slc 1 0 (ms.length) 4 (.of 0) false))), (5, .one (.c (.slc 2 0 (c) 25 (.of 0) false))), (7, .one (.c (.ptr 3 0))), (8, .one (.c (.int .i64 (IntKind.i64.wrap (z + 1)))))] [.live ⟨false, 0, 4, (.rows .fr (ks : List Fr)), false⟩, .live ⟨false, 0, 4, (.rows .fr (ms : List Fr)), false⟩, .live ⟨true, 54, 25, (.rows .g2 (pl : List Pg2)), false⟩, .live ⟨true, 24, 0, (.row (Row.cs (s : Fr))), false⟩])))))))))
      (.leaf (.inl ((.exit 2, mkSt 74 [(0, .one (.c (.slc 0 0 (ks.length) 4 (.of 0) false))), (1, .one (.c (.slc 1 0 (ms.length) 4 (.of 0) false))), (5, .one (.c (.slc 2 0 (c) 25 (.of 0) false))), (7, .one (.c (.ptr 3 0))), (8, .one (.c (.int .i64 (z))))] [.live ⟨false, 0, 4, (.rows .fr (ks : List Fr)), false⟩, .live ⟨false, 0, 4, (.rows .fr (ms : List Fr)), false⟩, .live ⟨true, 54, 25, (.rows .g2 (pl : List Pg2)), false⟩, .live ⟨true, 24, 0, (.row (Row.cs (s : Fr))), false⟩])))))) := by kernel_rfl
theorem ss2_end (b : Bool) (mF : Fr → Bool) (g : Pg2) (tF : Pg2 → Fr → Pg2) (aF uF : Fr → Fr → Fr) (sF : List Pg2 → List Fr → Pg2) (ks ms : List Fr) (z : Int) (c : Nat) (pl : List Pg2) (s : Fr) : endT (ss2E b mF g tF aF uF sF) oB 300 Try.f14 (ss2C.drop 11) (ss2S ks ms z c pl s) =
  (.vc (((0 + c * 25 ≤ (rowsC RK.g2 pl).length ∧ 0 = 0 ∧ c < 1125899906842624 ∧ 0 = 0 ∧ 25 = 25) ∧ few2 (List.take c (List.drop 0 pl))) ∧ 0 + ms.length * 4 ≤ (rowsC RK.fr ms).length ∧ 0 = 0 ∧ ms.length < 1125899906842624 ∧ 0 = 0 ∧ 4 = 4)
    (.leaf (some (((sF (List.take c (List.drop 0 pl)) (List.take ms.length (List.drop 0 ms))).x.c0.l0 == (tF g s).x.c0.l0 && ((sF (List.take c (List.drop 0 pl)) (List.take ms.length (List.drop 0 ms))).x.c0.l1 == (tF g s).x.c0.l1 && ((sF (List.take c (List.drop 0 pl)) (List.take ms.length (List.drop 0 ms))).x.c0.l2 == (tF g s).x.c0.l2 && ((sF (List.take c (List.drop 0 pl)) (List.take ms.length (List.drop 0 ms))).x.c0.l3 == (tF g s).x.c0.l3 && ((sF (List.take c (List.drop 0 pl)) (List.take ms.length (List.drop 0 ms))).x.c0.l4 == (tF g s).x.c0.l4 && ((sF (List.take c (List.drop 0 pl)) (List.take ms.length (List.drop 0 ms))).x.c0.l5 == (tF g s).x.c0.l5 && true))))) && ((sF (List.take c (List.drop 0 pl)) (List.take ms.length (List.drop 0 ms))).x.c1.l0 == (tF g s).x.c1.l0 && ((sF (List.take c (List.drop 0 pl)) (List.take ms.length (List.drop 0 ms))).x.c1.l1 == (tF g s).x.c1.l1 && ((sF (List.take c (List.drop 0 pl)) (List.take ms.length (List.drop 0 ms))).x.c1.l2 == (tF g s).x.c1.l2 && ((sF (List.take c (List.drop 0 pl)) (List.take ms.length (List.drop 0 ms))).x.c1.l3 == (tF g s).x.c1.l3 && ((sF (List.take c (List.drop 0 pl)) (List.take ms.length (List.drop 0 ms))).x.c1.l4 == (tF g s).x.c1.l4 && ((sF (List.take c (List.drop 0 pl)) (List.take ms.length (List.drop 0 ms))).x.c1.l5 == (tF g s).x.c1.l5 && true))))) && true) && ((sF (List.take c (List.drop 0 pl)) (List.take ms.length (List.drop 0 ms))).y.c0.l0 == (tF g s).y.c0.l0 && ((sF (List.take c (List.drop 0 pl)) (List.take ms.length (List.drop 0 ms))).y.c0.l1 == (tF g s).y.c0.l1 && ((sF (List.take c (List.drop 0 pl)) (List.take ms.length (List.drop 0 ms))).y.c0.l2 == (tF g s).y.c0.l2 && ((sF (List.take c (List.drop 0 pl)) (List.take ms.length (List.drop 0 ms))).y.c0.l3 == (tF g s).y.c0.l3 && ((sF (List.take c (List.drop 0 pl)) (List.take ms.length (List.drop 0 ms))).y.c0.l4 == (tF g s).y.c0.l4 && ((sF (List.take c (List.drop 0 pl)) (List.take ms.length (List.drop 0 ms))).y.c0.l5 == (tF g s).y.c0.l5 && true))))) && ((sF (List.take c (List.drop 0 pl)) (List.take ms.length (List.drop 0 ms))).y.c1.l0 == (tF g s).y.c1.l0 && ((sF (List.take c (List.drop 0 pl)) (List.take ms.length (List.drop 0 ms))).y.c1.l1 == (tF g s).y.c1.l1 && ((sF (List.take c (List.drop 0 pl)) (List.take ms.length (List.drop 0 ms))).y.c1.l2 == (tF g s).y.c1.l2 && ((sF (List.take c (List.drop 0 pl)) (List.take ms.length (List.drop 0 ms))).y.c1.l3 == (tF g s).y.c1.l3 && ((sF (List.take c (List.drop 0 pl)) (List.take ms.length (List.drop 0 ms))).y.c1.l4 == (tF g s).y.c1.l4 && ((sF (List.take c (List.drop 0 pl)) (List.take ms.length (List.drop 0 ms))).y.c1.l5 == (tF g s).y.c1.l5 && true))))) && true) && ((sF (List.take c (List.drop 0 pl)) (List.take ms.length (List.drop 0 ms))).inf == (tF g s).inf && true)), .t))))) := by kernel_rfl
theorem ss2_gives {mF : Fr → Bool} {g : Pg2} {tF : Pg2 → Fr → Pg2} {aF uF : Fr → Fr → Fr} {sF : List Pg2 → List Fr → Pg2} (hE : EnvOk (ss2E true mF g tF aF uF sF)) {w : World} {v u : Value} {ks ms : List Fr} (hv : RwIs .fr w v ks) (hu : RwIs .fr w u ms)
    (h : (∀ i, i < ks.length → mF (ks.getD i fr0) = true) → (∀ i, i < ms.length → mF (ms.getD i fr0) = true) → sF (ks.map (tF g)) ms = tF g (ssumF aF uF ks ms ms.length)) :
    Gives Try.prog 14 #[v, u] w kBool.rs.res true :=
  G2g (E := ss2E true mF g tF aF uF sF) Try.func14 (c := codeOf Try.f14) (by kernel_rfl) (inpRw .fr) (inpRw .fr) oB true hv hu (fun hk hm => by
    have hk : ks.length < topLen := hk
    have hm : ms.length < topLen := hm
    have h0 : topLen = 1125899906842624 := rfl
    refine DoesL.seg hE 300 7 _ _ _ _ _ (ss2_start true mF g tF aF uF sF ks ms) ⟨fun h1 => (by cases h1), fun _ => ⟨vcLenFr ks, fun _ => ⟨fun _ => ⟨.t, rfl, trivial⟩, fun h5 => ⟨vcLenFr ms, fun _ => ⟨fun _ => ⟨.t, rfl, trivial⟩, fun h6 => ?_⟩⟩⟩⟩⟩
    have h5 : ks.length ≤ 5 := by simp at h5; omega
    have h6 : ms.length ≤ 6 := by simp at h6; omega
    show DoesL _ _ (ss2A ks ms ((0 : Nat) : Int) 0 ((ks.take 0).map (tF g))) _
    refine DoesL.blockLoopR (B := ss2B 0) (rest := ss2C.drop 8) (id := 0) (by kernel_rfl) (fun j : { j : Nat // j ≤ ks.length ∧ ∀ i, i < j → mF (ks.getD i fr0) = true } => ss2A ks ms (j.1 : Int) j.1 ((ks.take j.1).map (tF g))) (fun j => ks.length - j.1) ⟨0, Nat.zero_le _, fun i hi => absurd hi (Nat.not_lt_zero i)⟩ fun j => ?_
    obtain ⟨j, hj, hmay⟩ := j
    show DoesL _ _ (ss2A ks ms (j : Int) j ((ks.take j).map (tF g))) _
    have hlen : ((ks.take j).map (tF g)).length = j := by rw [List.length_map, List.length_take, Nat.min_eq_left hj]
    refine DoesL.iterP hE 300 _ (ss2_round1 true mF g tF aF uF sF ks ms (j : Int) j ((ks.take j).map (tF g))) ⟨vcLenFr ks, fun _ => ⟨fun h1 => ?_, fun h1 => ?_⟩⟩
    · simp only [decide_eq_true_eq] at h1
      have hj1 : j < ks.length := by omega
      refine ⟨vcIdxFr hj1, fun _ => ⟨vcGetFr hj1, fun _ => ⟨fun _ => ⟨.t, rfl, trivial⟩, fun h2 => ⟨vcIdxFr hj1, fun _ => ⟨vcGetFr hj1, fun _ => ⟨⟨⟨by rw [rowsC_g2, hlen]; omega, rfl⟩, by omega, by omega⟩, fun _ => ?_⟩⟩⟩⟩⟩⟩
      rw [zero_add_nat] at h2 ⊢
      have h2 : mF (ks.getD j fr0) = true := of_not_false h2
      refine ⟨⟨j + 1, hj1, fun i hi => ?_⟩, by show ks.length - (j + 1) < ks.length - j; omega, ?_⟩
      · rcases Nat.lt_succ_iff_lt_or_eq.1 hi with h3 | h3
        · exact hmay i h3
        · rw [h3]; exact h2
      · show _ = ss2A ks ms ((j + 1 : Nat) : Int) (j + 1) ((ks.take (j + 1)).map (tF g))
        rw [wrap_succ j (by omega), wholeAppG2 hlen, take_snoc ks fr0 hj1, List.map_append]
        rfl
    · simp only [decide_eq_false_iff_not] at h1
      obtain rfl : j = ks.length := by omega
      refine ⟨rfl, ?_⟩
      rw [List.take_length] at hlen ⊢
      refine DoesL.stageG hE 300 2 _ _ _ _ _ (ss2_mid true mF g tF aF uF sF ks ms (ks.length : Int) ks.length (ks.map (tF g))) ?_
      show DoesL _ _ (ss2S ks ms ((0 : Nat) : Int) ks.length (ks.map (tF g)) (ssumF aF uF ks ms 0)) _
      refine DoesL.blockLoopR (B := ss2B 1) (rest := ss2C.drop 11) (id := 2) (by kernel_rfl) (fun j : { j : Nat // j ≤ ms.length ∧ ∀ i, i < j → mF (ms.getD i fr0) = true } => ss2S ks ms (j.1 : Int) ks.length (ks.map (tF g)) (ssumF aF uF ks ms j.1)) (fun j => ms.length - j.1) ⟨0, Nat.zero_le _, fun i hi => absurd hi (Nat.not_lt_zero i)⟩ fun j => ?_
      obtain ⟨j, hj, hmay2⟩ := j
      show DoesL _ _ (ss2S ks ms (j : Int) ks.length (ks.map (tF g)) (ssumF aF uF ks ms j)) _
      refine DoesL.iterP hE 300 _ (ss2_round2 true mF g tF aF uF sF ks ms (j : Int) ks.length (ks.map (tF g)) (ssumF aF uF ks ms j)) ⟨vcLenFr ms, fun _ => ⟨fun h1 => ?_, fun h1 => ?_⟩⟩
      · simp only [decide_eq_true_eq] at h1
        have hj1 : j < ms.length := by omega
        refine ⟨vcIdxFr hj1, fun _ => ⟨vcGetFr hj1, fun _ => ⟨fun _ => ⟨.t, rfl, trivial⟩, fun h2 => ⟨vcLenFr ks, fun _ => ⟨fun h3 => ?_, fun h3 => ?_⟩⟩⟩⟩⟩
        all_goals
          rw [zero_add_nat] at h2
          have h2 : mF (ms.getD j fr0) = true := of_not_false h2
          have hmay3 : ∀ i, i < j + 1 → mF (ms.getD i fr0) = true := fun i hi => by
            rcases Nat.lt_succ_iff_lt_or_eq.1 hi with h3 | h3
            · exact hmay2 i h3
            · rw [h3]; exact h2
        · simp only [decide_eq_true_eq] at h3
          have hj2 : j < ks.length := by omega
          refine ⟨vcIdxFr hj2, fun _ => ⟨vcGetFr hj2, fun _ => ⟨vcIdxFr hj1, fun _ => ⟨vcGetFr hj1, fun _ => ?_⟩⟩⟩⟩
          refine ⟨⟨j + 1, hj1, hmay3⟩, by show ms.length - (j + 1) < ms.length - j; omega, ?_⟩
          show _ = ss2S ks ms ((j + 1 : Nat) : Int) ks.length (ks.map (tF g)) (ssumF aF uF ks ms (j + 1))
          rw [wrap_succ j (by omega), zero_add_nat, ssumF, if_pos hj2]
          rfl
        · simp only [decide_eq_false_iff_not] at h3
          have hj2 : ¬ j < ks.length := by omega
          refine ⟨⟨j + 1, hj1, hmay3⟩, by show ms.length - (j + 1) < ms.length - j; omega, ?_⟩
          show _ = ss2S ks ms ((j + 1 : Nat) : Int) ks.length (ks.map (tF g)) (ssumF aF uF ks ms (j + 1))
          rw [wrap_succ j (by omega), ssumF, if_neg hj2]
          rfl
      · simp only [decide_eq_false_iff_not] at h1
        obtain rfl : j = ms.length := by omega
        have hfin := h hmay hmay2
        refine ⟨rfl, DoesL.ends hE 300 (ss2_end true mF g tF aF uF sF ks ms _ _ _ _) ?_⟩
        rw [wholeTakeG2 hlen, wholeTakeFr rfl]
        refine ⟨⟨⟨⟨by rw [rowsC_g2, hlen]; omega, rfl, by omega, rfl, rfl⟩, by show (ks.map (tF g)).length < 4294967296; omega⟩, vcAllFr hm⟩, fun _ => reads_t ?_⟩
        rw [hfin]
        exact (pg2Eq_iff _ _).2 rfl)
end Go.Proofs.Ytchlamfdofpolaa

set_option linter.unusedSimpArgs false
set_option linter.unusedVariables false
namespace Go.Proofs.Ytchlamfdofpolaa
open Go.RowKit
section
variable {K : Type} [Fld K] [Crv K] {R : Fp6 → Pt K → Prop} {tw : Fp6 → Fp6} {pl : Fp6 → Fp6 → Fp6} (h0 : R zeroFp6 .inf) (htw : ∀ {s : Fp6} {p : Pt K}, p.on → R s p → R (tw s) (p.add p))
  (hpl : ∀ {s t : Fp6} {p q : Pt K}, p.on → q.on → R s p → R t q → R (pl s t) (p.add q))
include h0 hpl in
theorem tabF2_rel {s : Fp6} {p : Pt K} (hp : p.on) (h : R s p) : ∀ d, R (tabF2 pl s d) (p.mul d)
  | 0 => h0
  | d + 1 => hpl (mul_on hp d) hp (tabF2_rel hp h d) h
include hpl in
theorem sumIn2_rel {tl : List Fp6} {ks : List Fr} {z : Int} {P : Nat → Pt K} {d : Nat → Nat} {n : Nat} (hP : ∀ j, j < n → (P j).on) (ht : ∀ j, j < n → R (tl.getD (j * 16 + (digU (ks.getD j fr0) z).toNat) sp02) ((P j).mul (d j)))
    {o : Fp6} {p : Pt K} (hp : p.on) (ho : R o p) : ∀ j, j ≤ n → R (sumIn2 pl tl ks z j o) (p.add (wsum P d j))
  | 0, _ => by
    rw [wsum, add_inf]
    exact ho
  | j + 1, h => by
    have hw : (wsum P d j).on := wsum_on fun i hi => hP i (by omega)
    have := hpl (add_on hp hw) (mul_on (hP j (by omega)) (d j)) (sumIn2_rel hP ht hp ho j (by omega)) (ht j (by omega))
    rw [add_assoc_pt hp hw (mul_on (hP j (by omega)) _)] at this
    exact this
include htw in
theorem twice4_rel2 {o : Fp6} {p : Pt K} (hp : p.on) (h : R o p) : R (tw (tw (tw (tw o)))) (p.mul 16) := by
  rw [← mul_sixteen hp]
  exact htw (add_on (add_on (add_on hp hp) (add_on hp hp)) (add_on (add_on hp hp) (add_on hp hp))) (htw (add_on (add_on hp hp) (add_on hp hp)) (htw (add_on hp hp) (htw hp h)))
include htw hpl in
theorem sumOut2_rel {tl : List Fp6} {ks : List Fr} {P : Nat → Pt K} {n : Nat} (hP : ∀ j, j < n → (P j).on) (ht : ∀ j d, j < n → d < 16 → R (tl.getD (j * 16 + d) sp02) ((P j).mul d)) :
    ∀ (m : Nat), m ≤ 64 → ∀ {o : Fp6}, R o (wsum P (fun j => (ks.getD j fr0).nat / 16 ^ m) n) → R (sumOut2 tw pl tl ks n m o) (wsum P (fun j => (ks.getD j fr0).nat) n)
  | 0, _, o, h => by
    simp only [Nat.pow_zero, Nat.div_one] at h
    exact h
  | m + 1, hm, o, h => by
    simp only [sumOut2]
    refine sumOut2_rel hP ht m (by omega) ?_
    have hw := wsum_on (k := fun j => (ks.getD j fr0).nat / 16 ^ (m + 1)) hP
    have h1 := sumIn2_rel hpl (tl := tl) (ks := ks) (z := ((4 * m : Nat) : Int)) (d := fun j => (ks.getD j fr0).nat / 16 ^ m % 16) hP (fun j hj => by
      rw [digU_nat _ (by omega)]
      exact ht j _ hj (Nat.mod_lt _ (by decide))) (mul_on hw 16) (twice4_rel2 htw hw h) n (Nat.le_refl n)
    rw [← wsum_mul 16 hP, ← wsum_add hP] at h1
    rw [wsum_congr (Q := P) (l := fun j => (ks.getD j fr0).nat / 16 ^ m) (fun j _ => ⟨rfl, by
      have key : (ks.getD j fr0).nat / 16 ^ (m + 1) = (ks.getD j fr0).nat / 16 ^ m / 16 := by rw [Nat.pow_succ, Nat.div_div_eq_div_mul]
      show (ks.getD j fr0).nat / 16 ^ (m + 1) * 16 + (ks.getD j fr0).nat / 16 ^ m % 16 = (ks.getD j fr0).nat / 16 ^ m
      rw [key]
      generalize (ks.getD j fr0).nat / 16 ^ m = y
      omega⟩)] at h1
    exact h1
end
theorem tabs2_getD (f : Pg2 → Nat → Fp6) (F : Pg2 → Tab .sp2) (hF : ∀ p, (F p).xs = sixteen (f p)) : ∀ (ps : List Pg2) (j d : Nat), j < ps.length → d < 16 → (tabs2 F ps).getD (j * 16 + d) sp02 = f (ps.getD j pg20) d
  | [], j, d, hj, _ => absurd hj (Nat.not_lt_zero j)
  | p :: ps, 0, d, _, hd => by
    have h16 : (F p).xs.length = 16 := (F p).len
    have e : tabs2 F (p :: ps) = (F p).xs ++ tabs2 F ps := by simp [tabs2]
    rw [e, Nat.zero_mul, Nat.zero_add, List.getD_eq_getElem?_getD, List.getElem?_append_left (by omega), ← List.getD_eq_getElem?_getD, hF]
    exact sixteen_getD _ _ hd
  | p :: ps, j + 1, d, hj, hd => by
    have h16 : (F p).xs.length = 16 := (F p).len
    have e : tabs2 F (p :: ps) = (F p).xs ++ tabs2 F ps := by simp [tabs2]
    rw [e, List.getD_eq_getElem?_getD, List.getElem?_append_right (by omega), h16, show (j + 1) * 16 + d - 16 = j * 16 + d by omega, ← List.getD_eq_getElem?_getD]
    exact tabs2_getD f F hF ps j d (by simpa using hj) hd
theorem tab2V_xs (p : Pg2) : (tab2V p).xs = sixteen (tabF2 plusG2 (liftG2 p)) := rfl
theorem laysG2_sum {ps : List Pg2} (hp : ∀ i, i < ps.length → (ps.getD i pg20).good) (ks : List Fr) : (sumG2 ps ks).good ∧ (sumG2 ps ks).pt = wsum (fun j => (ps.getD j pg20).pt) (fun j => (ks.getD j fr0).nat) (sumN2 ps ks) := by
  have hN : sumN2 ps ks ≤ ps.length := Nat.min_le_right _ _
  have hP : ∀ j, j < sumN2 ps ks → (ps.getD j pg20).pt.on := fun j hj => (hp j (by omega)).2
  unfold sumG2
  refine lays2_rel (wsum_on hP) (sumOut2_rel (R := rel2) twice2_rel plus2_rel hP (fun j d hj hd => ?_) 64 (Nat.le_refl _) ?_)
  · rw [tabs2_getD (fun p => tabF2 plusG2 (liftG2 p)) tab2V tab2V_xs (ps.take (sumN2 ps ks)) j d (by rw [List.length_take]; omega) hd]
    have e : (ps.take (sumN2 ps ks)).getD j pg20 = ps.getD j pg20 := by rw [List.getD_eq_getElem?_getD, List.getD_eq_getElem?_getD, List.getElem?_take_of_lt hj]
    rw [e]
    exact tabF2_rel (R := rel2) rel2_inf plus2_rel (hP j hj) (lift2_rel (hp j (by omega))) d
  · rw [wsum_zero fun j hj => ?_]
    · exact rel2_inf
    · have h1 := (ks.getD j fr0).nat_lt
      have h2 : r4N = 16 ^ 64 := by decide +kernel
      rw [h2] at h1
      exact Nat.div_eq_of_lt h1
end Go.Proofs.Ytchlamfdofpolaa

set_option linter.unusedSimpArgs false
set_option linter.unusedVariables false
namespace Go.Proofs.Ytchlamfdofpolaa
open Go.RowKit
theorem sums2_law (ks ms : List Fr) (hk : ∀ i, i < ks.length → mayRF (ks.getD i fr0) = true) (hm : ∀ i, i < ms.length → mayRF (ms.getD i fr0) = true) :
    sumG2 (ks.map (times2R gen2R)) ms = times2R gen2R (ssumF addRF mulRF ks ms ms.length) := by
  have hg : ∀ i, i < (ks.map (times2R gen2R)).length → ((ks.map (times2R gen2R)).getD i pg20).good ∧ ((ks.map (times2R gen2R)).getD i pg20).pt = oneG2.pt.mul (ks.getD i fr0).nat := by
    intro i hi
    rw [List.length_map] at hi
    have e : (ks.map (times2R gen2R)).getD i pg20 = mulG2 oneG2 (ks.getD i fr0) := (getD_map' (times2R gen2R) fr0 pg20 hi).trans (gtimes2 (ks.getD i fr0))
    rw [e]
    exact gmul2 _
  obtain ⟨s1, s2⟩ := laysG2_sum (fun i hi => (hg i hi).1) ms
  obtain ⟨t1, t2⟩ := gmul2 (ssumF addRF mulRF ks ms ms.length)
  rw [gtimes2]
  refine pt2_inj s1.1 t1.1 ?_
  rw [s2, t2, ssumF_nat (fun i hi => mayRF_lt (hk i hi)) (fun i hi => mayRF_lt (hm i hi)) _ (Nat.le_refl _), gmul2_mod, prodTo_wsum gen2_good.2]
  have hn : sumN2 (ks.map (times2R gen2R)) ms = min ms.length ks.length := by show min ms.length (ks.map (times2R gen2R)).length = _; rw [List.length_map]
  rw [hn]
  exact wsum_congr fun j hj => ⟨(hg j (by rw [List.length_map]; omega)).2, rfl⟩
theorem g2Sums_gives {w : World} {v u : Value} {ks ms : List Fr} (hv : RwIs .fr w v ks) (hu : RwIs .fr w u ms) : Gives Try.prog 14 #[v, u] w kBool.rs.res true := by
  have hb := begun9_ok
  rw [begun9_true] at hb
  exact ss2_gives (En_ok (.cons hb (.cons mayR_ok (.cons gen2R_ok (.cons times2R_ok (.cons addR_ok (.cons mulR_ok (.cons sumG2_ok .nil)))))))) hv hu (sums2_law ks ms)
end Go.Proofs.Ytchlamfdofpolaa
