/- The statements of layer 5: their plain laws, and what their functions give. -/
import Derived.Test.YtehhcpopfgieeaaVb
import Derived.Test.YtehhcpopfgieeaaMk
import Derived.Test.YtehhcpopfgieeaaPn
import Derived.Test.YtehhcpopfgieeaaPo
set_option linter.unusedSimpArgs false
set_option linter.unusedVariables false
namespace Go.Proofs.Ytehhcpopfgieeaa
open Go.RowKit

theorem ends_gives {α ρ : Type} {E : Env} {f : FuncId} {fn : Func} (hf : E.P.funcs[f]? = some fn) {c : Code} (hb : fn.body = some c) (k : KdL α) (x : α) (o : Out ρ) {F : ρ} (w : World)
    (h : DoesL E (flat c) (startSt fn (k.avs x) []) (EndsAs E fn (Reads o F))) : Gives E.P f (k.vals x).toArray w o.res F := by
  have := gives_ends hf hb (HRel.start w β0) (avs := k.avs x) (fun v hv => k.av_id x _ v hv) h
  rw [k.av_ok] at this
  exact this

theorem fp2Eq_refl (x : Fp2) : fp2Eq x x = true := (fp2Eq_iff x x).2 rfl
theorem fp2Eq_of {x y : Fp2} (h : x = y) : fp2Eq x y = true := (fp2Eq_iff x y).2 h

/-! ## begun -/
theorem u_ok2 : uFp2.ok := Fp2.mk_ok zero_ok' one_ok'
theorem v_u2 : uFp2.v = uu := Fp2.mk_v v_zero v_one
theorem great_u2 : greatF2 uFp2 = false := by
  unfold greatF2
  rw [great2_high (a := uFp2) rfl]
  show greatF oneFp = false
  rw [greatF_nat, one_nat]
  exact decide_eq_false (by decide +kernel)
theorem begun5_L {f0 : Fp2 → Fp2} {f1 : Fp2 → Fp2 × Bool} {f2 : Fp2 → Fp2 × Int} {f3 : Fp2 → Fp2 → Fp2} {f4 : Fp2 → Bool} {f5 : Fp2 → Fp2} (h1 : fp2Eq (f3 uFp2 uFp2) (f0 oneFp2) = true) (h2 : (f1 (f0 oneFp2)).2 = true) (h3 : fp2Eq (f1 (f0 oneFp2)).1 uFp2 = true) (h4 : ((f2 uFp2).2 == 0) = true) (h5 : fp2Eq (f2 uFp2).1 (f0 uFp2) = true) (h6 : f4 uFp2 = true) (h7 : fp2Eq (f5 uFp2) (f2 uFp2).1 = true) : begun5_G f0 f1 f2 f3 f4 f5 = true := by
  unfold begun5_G
  rw [h1, h2, h3, h4, h5, h6]
  exact h7
theorem begun5_true : begun5 = true := by
  have hu := u_ok2
  have hone := one_ok2
  have hm : (negF2 oneFp2).v = -1 := by rw [v_neg2 hone, v_one2]
  have hs : sqrtF2 (negF2 oneFp2) = (uFp2, true) := (sqrt_root2 (neg_ok2 hone)).eq (.inl ⟨⟨uu, by rw [hm, uu_sq]⟩, rfl, hu, by rw [v_u2, hm, uu_sq], great_u2⟩)
  have hne : uFp2.v ≠ 0 := by
    rw [v_u2]
    intro h
    have h2 := uu_sq
    rw [h] at h2
    have h3 : (1 : V2) = 0 := by grind
    exact one_ne' h3
  obtain ⟨i1, i2, i3⟩ := (inv_v2 hu).2 hne
  have hi : (invF2 uFp2).1.v = -uu := by
    rw [i3, v_u2]
    refine (inv_unique' ?_).symm
    have := uu_sq
    grind
  have hcu : conjF2 uFp2 = negF2 uFp2 := by
    rw [conjF2_eq, negF2_eq]
    show (⟨zeroFp, negF oneFp⟩ : Fp2) = ⟨negF zeroFp, negF oneFp⟩
    have : negF zeroFp = zeroFp := Fp.v_inj (neg_ok' zero_ok') zero_ok' (by rw [v_neg zero_ok', v_zero]; grind)
    rw [this]
  unfold begun5
  refine begun5_L ?_ ?_ ?_ ?_ ?_ ?_ ?_
  · rw [fp2Eq_v (mul_ok2 hu hu) (neg_ok2 hone), v_mul2 hu hu, hm, v_u2, uu_sq]
  · rw [hs]
  · rw [hs]; exact fp2Eq_refl _
  · rw [i1]; rfl
  · rw [fp2Eq_v i2 (neg_ok2 hu), hi, v_neg2 hu, v_u2]
  · exact (may2_iff _).2 hu
  · rw [fp2Eq_v (conj_ok2 hu) i2, hi, hcu, v_neg2 hu, v_u2]
theorem begun5_ok' : CallOk Try.prog 27 (K0 kBool.rs.res true) := by
  have := begun5_ok
  rw [begun5_true] at this
  exact this

/-! ## Fp2All -/
theorem fp2All_L {f0 : Bool} {f1 f2 : Fp2 → Bool} {f3 f4 : Fp2 → Fp2 × Int} {f5 f6 f7 f8 : Fp2 → Fp2 → Fp2} {f9 f10 : Fp2 → Fp2} {f11 f12 : Fp2 → Fp2 → Fp2} {f13 f14 : Fp2 → Fp2} {f15 f16 : Fp2 → Bool} {a b : Fp2}
    (h0 : f0 = true) (h2 : f2 a = f1 a) (h : f1 a = true → f1 b = true → f5 a b = f6 a b ∧ f7 a b = f8 a b ∧ f9 a = f10 a ∧ f11 a b = f12 a b ∧ f13 a = f14 a ∧ f15 a = f16 a ∧ f3 a = f4 a) :
    fp2All_G f0 f1 f2 f3 f4 f5 f6 f7 f8 f9 f10 f11 f12 f13 f14 f15 f16 a b = true := by
  unfold fp2All_G
  subst h0
  rw [h2]
  cases h1 : f1 a with
  | false => simp
  | true =>
    cases hb : f1 b with
    | false => simp
    | true =>
      obtain ⟨e1, e2, e3, e4, e5, e6, e7⟩ := h h1 hb
      rw [e1, e2, e3, e4, e5, e6, e7]
      simp [fp2Eq_refl]
theorem fp2All_law (a b : Fp2) : fp2All a b = true := by
  unfold fp2All
  refine fp2All_L begun5_true (may2_eq a) fun ha hb => ?_
  have ha := (may2R_iff a).1 ha
  have hb := (may2R_iff b).1 hb
  exact ⟨(add2R_eq a b).symm, (sub2R_eq a b).symm, (neg2R_eq a).symm, (mul2R_eq ha hb).symm, (conj2R_eq a).symm, (great2R_eq a).symm, (inv2R_eq ha).symm⟩

/-! ## Fp2Squares -/
def SqC (f2 : Fp2 → Fp2 × Bool) (f3 : Fp2 → Fp2 → Fp2) (f4 : Fp2 → Fp2) (f5 : Fp2 → Bool) (x : Fp2) : Prop :=
  (f2 (f3 x x)).2 = true ∧ (fp2Eq (f2 (f3 x x)).1 x = true ∨ fp2Eq (f2 (f3 x x)).1 (f4 x) = true) ∧ f5 (f2 (f3 x x)).1 = false ∧ ((f2 x).2 = true → fp2Eq (f3 (f2 x).1 (f2 x).1) x = true) ∧ (fp2Eq x zeroFp2 = false → f5 (f4 x) = !f5 x)
theorem fp2Squares_L {f0 : Bool} {f1 : Fp2 → Bool} {f2 : Fp2 → Fp2 × Bool} {f3 : Fp2 → Fp2 → Fp2} {f4 : Fp2 → Fp2} {f5 : Fp2 → Bool} {a : Fp2} {n : UInt8}
    (h0 : f0 = true) (h : f1 a = true → SqC f2 f3 f4 f5 a ∧ SqC f2 f3 f4 f5 ⟨a.c0, zeroFp⟩ ∧ SqC f2 f3 f4 f5 ⟨zeroFp, a.c1⟩) : fp2Squares_G f0 f1 f2 f3 f4 f5 a n = true := by
  have key : ∀ x, SqC f2 f3 f4 f5 x → (match (f2 (f3 x x)).2 with | true => (match fp2Eq (f2 (f3 x x)).1 x with | true => (match !(f5 (f2 (f3 x x)).1) with | true => (match !((f2 x).2) with | true => (match fp2Eq x zeroFp2 with | true => true | false => !(f5 x == f5 (f4 x))) | false => (match fp2Eq (f3 (f2 x).1 (f2 x).1) x with | true => (match fp2Eq x zeroFp2 with | true => true | false => !(f5 x == f5 (f4 x))) | false => false)) | false => false) | false => (match fp2Eq (f2 (f3 x x)).1 (f4 x) with | true => (match !(f5 (f2 (f3 x x)).1) with | true => (match !((f2 x).2) with | true => (match fp2Eq x zeroFp2 with | true => true | false => !(f5 x == f5 (f4 x))) | false => (match fp2Eq (f3 (f2 x).1 (f2 x).1) x with | true => (match fp2Eq x zeroFp2 with | true => true | false => !(f5 x == f5 (f4 x))) | false => false)) | false => false) | false => false)) | false => false) = true := by
    rintro x ⟨h1, h2, h3, h4, h5⟩
    have e5 : (match fp2Eq x zeroFp2 with | true => true | false => !(f5 x == f5 (f4 x))) = true := by
      cases hz : fp2Eq x zeroFp2 with
      | true => rfl
      | false =>
        simp only []
        rw [h5 hz]
        cases f5 x <;> rfl
    have e4 : (match !((f2 x).2) with | true => (match fp2Eq x zeroFp2 with | true => true | false => !(f5 x == f5 (f4 x))) | false => (match fp2Eq (f3 (f2 x).1 (f2 x).1) x with | true => (match fp2Eq x zeroFp2 with | true => true | false => !(f5 x == f5 (f4 x))) | false => false)) = true := by
      cases hs : (f2 x).2 with
      | false => exact e5
      | true =>
        simp only [Bool.not_true]
        rw [h4 hs]
        exact e5
    rw [h1, h3]
    simp only [Bool.not_false]
    cases hq : fp2Eq (f2 (f3 x x)).1 x with
    | true => exact e4
    | false =>
      rcases h2 with h2 | h2
      · rw [h2] at hq; cases hq
      · simp only []
        rw [h2]
        exact e4
  unfold fp2Squares_G
  subst h0
  cases h1 : f1 a with
  | false => rfl
  | true =>
    obtain ⟨k1, k2, k3⟩ := h h1
    generalize ((↑n.toNat : Int).tmod 4 == 1) = b1
    generalize ((↑n.toNat : Int).tmod 4 == 2) = b2
    cases b1 with
    | true => exact key _ k2
    | false =>
      cases b2 with
      | true => exact key _ k3
      | false => exact key _ k1
theorem sqC_law {x : Fp2} (hx : x.ok) : SqC sqrtF2 mulF2 negF2 greatF2 x := by
  have hm := mul_ok2 hx hx
  have hn := neg_ok2 hx
  rcases sqrt_root2 hm with ⟨_, h1, h2, h3, h4⟩ | ⟨h, _⟩
  · refine ⟨h1, ?_, h4, fun hs => ?_, fun hz => ?_⟩
    · rw [v_mul2 hx hx] at h3
      rcases sq_eq' h3 with e | e
      · exact .inl ((fp2Eq_v h2 hx).2 e)
      · exact .inr ((fp2Eq_v h2 hn).2 (by rw [e, v_neg2 hx]))
    · rcases sqrt_root2 hx with ⟨_, _, k2, k3, _⟩ | ⟨_, k⟩
      · exact (fp2Eq_v (mul_ok2 k2 k2) hx).2 (by rw [v_mul2 k2 k2, k3])
      · rw [k] at hs; cases hs
    · exact great_neg2 hx (by
        have := (fp2Eq_vF hx zero_ok2).1 hz
        rwa [v_zero2] at this)
  · exact absurd ⟨x.v, (v_mul2 hx hx).symm⟩ h
theorem fp2Squares_law (a : Fp2) (n : UInt8) : fp2Squares a n = true := by
  unfold fp2Squares
  refine fp2Squares_L begun5_true fun ha => ?_
  have ha := (may2R_iff a).1 ha
  exact ⟨sqC_law ha, sqC_law (Fp2.mk_ok ha.1 zero_ok'), sqC_law (Fp2.mk_ok zero_ok' ha.2)⟩

/-! ## Fp2Roots -/
theorem roots_ok : ∀ (p0 p1 : Prop) (c1 c2 c3 c4 c5 : Bool), (!c1 || c2 || (c3 && c4 && c5)) = true → (roots_run_T true c1 c2 c3 c4 c5 p0 p1).evalV = true := fun p0 p1 => of_decide_eq_true (by kernel_rfl)
theorem roots_vc {p0 p1 : Prop} (h0 : p0) (h1 : p1) (c0 c1 c2 c3 c4 c5 : Bool) : (roots_run_T c0 c1 c2 c3 c4 c5 p0 p1).vcAll := by
  simp only [roots_run_T, Tree.vcAll, h0, h1, implies_true, and_true]
theorem roots_law (a : Fp2) (e : List UInt64) : (!may2R a || decide ((e.length : Int) > 7) || (fp2Eq (sqrtF2 a).1 (sqrt2R a).1 && ((sqrtF2 a).2 == (sqrt2R a).2) && fp2Eq (powF2 a e) (pow2R a e))) = true := by
  cases hm : may2R a with
  | false => rfl
  | true =>
    have ha := (may2R_iff a).1 hm
    rw [sqrt2R_eq ha, pow2R_v ha, fp2Eq_refl, fp2Eq_refl, beq_self_eq_true]
    simp
theorem roots_gives (a : Fp2) {w : World} {v : Value} {e : List UInt64} (he : SlIs eU64 w v e) : Gives Try.prog 10 #[rowV a, v] w kBool.rs.res true :=
  G2g (E := rootsE true may2R sqrtF2 sqrt2R powF2 pow2R) Try.func10 (c := codeOf Try.f10) (by kernel_rfl) (kRow Fp2).inp iL oB true (x := a) rfl he fun _ hl => by
    have hl : e.length < 1125899906842624 := hl
    refine DoesL.ends (En_ok (.cons begun5_ok' (.cons may2R_ok (.cons sqrtF2_ok (.cons sqrt2R_ok (.cons pw2_ok (.cons pow2R_ok .nil))))))) 300 (roots_run true may2R sqrtF2 sqrt2R powF2 pow2R a e) (Tree.law_sat (roots_ok _ _ _ _ _ _ _ ?_) (roots_vc (vcLen e) (okL' hl) _ _ _ _ _ _))
    rw [whole]
    exact roots_law a e

/-! ## Fp2Field -/
theorem field2_ok : ∀ (c1 c2 c3 c4 c5 c6 c7 c8 c9 c10 c11 c12 : Bool), (!c1 || !c2 || !c3 || (c4 && c5 && c6 && c7 && c8 && (c9 && c10 || c11 && c12))) = true → (field2_run_T true c1 c2 c3 c4 c5 c6 c7 c8 c9 c10 c11 c12).evalV = true := of_decide_eq_true (by kernel_rfl)
theorem field2_vc (c0 c1 c2 c3 c4 c5 c6 c7 c8 c9 c10 c11 c12 : Bool) : (field2_run_T c0 c1 c2 c3 c4 c5 c6 c7 c8 c9 c10 c11 c12).vcAll := by
  simp only [field2_run_T, Tree.vcAll, implies_true, and_true]
theorem field2_law (x y z : Fp2) : (!may2R x || !may2R y || !may2R z || (fp2Eq (mulF2 (addF2 x y) z) (addF2 (mulF2 x z) (mulF2 y z)) && fp2Eq (mulF2 x (mulF2 y z)) (mulF2 (mulF2 x y) z) && fp2Eq (conjF2 (mulF2 x y)) (mulF2 (conjF2 x) (conjF2 y)) && fp2Eq (mulF2 x y) (mulF2 y x) && fp2Eq (powF2 x pLimbs.list) (conjF2 x) && (fp2Eq x zeroFp2 && ((invF2 x).2 == 7) || ((invF2 x).2 == 0) && fp2Eq (mulF2 x (invF2 x).1) oneFp2))) = true := by
  cases hx' : may2R x with
  | false => rfl
  | true => cases hy' : may2R y with
    | false => rfl
    | true => cases hz' : may2R z with
      | false => rfl
      | true =>
        have hx := (may2R_iff x).1 hx'
        have hy := (may2R_iff y).1 hy'
        have hz := (may2R_iff z).1 hz'
        have xy := mul_ok2 hx hy
        have yz := mul_ok2 hy hz
        have xz := mul_ok2 hx hz
        have a := add_ok2 hx hy
        obtain ⟨q1, q2⟩ := pow_v2 hx pLimbs.list
        have e1 : fp2Eq (mulF2 (addF2 x y) z) (addF2 (mulF2 x z) (mulF2 y z)) = true := (fp2Eq_v (mul_ok2 a hz) (add_ok2 xz yz)).2 (by rw [v_mul2 a hz, v_add2 xz yz, v_add2 hx hy, v_mul2 hx hz, v_mul2 hy hz]; exact CR.right_dist _ _ _)
        have e2 : fp2Eq (mulF2 x (mulF2 y z)) (mulF2 (mulF2 x y) z) = true := (fp2Eq_v (mul_ok2 hx yz) (mul_ok2 xy hz)).2 (by rw [v_mul2 hx yz, v_mul2 xy hz, v_mul2 hy hz, v_mul2 hx hy, CR.mul_assoc])
        have e3 : fp2Eq (conjF2 (mulF2 x y)) (mulF2 (conjF2 x) (conjF2 y)) = true := (fp2Eq_v (conj_ok2 xy) (mul_ok2 (conj_ok2 hx) (conj_ok2 hy))).2 (by rw [v_conj2 xy, v_mul2 (conj_ok2 hx) (conj_ok2 hy), v_mul2 hx hy, v_conj2 hx, v_conj2 hy, Qd.conj_mul])
        have e4 : fp2Eq (mulF2 x y) (mulF2 y x) = true := (fp2Eq_v xy (mul_ok2 hy hx)).2 (by rw [v_mul2 hx hy, v_mul2 hy hx, CR.mul_comm])
        have e5 : fp2Eq (powF2 x pLimbs.list) (conjF2 x) = true := (fp2Eq_v q1 (conj_ok2 hx)).2 (by rw [q2, eLow_valL, valL_list, pLimbs_nat, v_conj2 hx, V2.frob])
        obtain ⟨i1, i2⟩ := inv_v2 hx
        rw [e1, e2, e3, e4, e5]
        by_cases h0 : x.v = 0
        · rw [i1 h0, fp2Eq_of ((v_eq_zero2 hx).1 h0)]
          rfl
        · obtain ⟨j1, j2, j3⟩ := i2 h0
          rw [j1, (fp2Eq_v (mul_ok2 hx j2) one_ok2).2 (by rw [v_mul2 hx j2, j3, mul_inv' h0, v_one2])]
          simp
theorem field2_gives (x y z : Fp2) (w : World) : Gives Try.prog 11 #[rowV x, rowV y, rowV z] w kBool.rs.res true :=
  ends_gives (E := field2E true may2R invF2 addF2 mulF2 conjF2 powF2 pLimbs) Try.func11 (c := codeOf Try.f11) (by kernel_rfl) (KdL.cons (kRow Fp2) (KdL.cons (kRow Fp2) (KdL.cons (kRow Fp2) KdL.nil))) (x, y, z, ()) oB w
    (DoesL.ends (Ens_ok (.cons begun5_ok' (.cons may2R_ok (.cons invF2_ok (.cons addF2_ok (.cons mulF2_ok (.cons conjF2_ok (.cons pw2_ok (.cons refP_ok .nil))))))))) 300 (field2_run true may2R invF2 addF2 mulF2 conjF2 powF2 pLimbs x y z) (Tree.law_sat (field2_ok _ _ _ _ _ _ _ _ _ _ _ _ (field2_law x y z)) (field2_vc _ _ _ _ _ _ _ _ _ _ _ _ _)))

theorem all2_gives (a b : Fp2) (w : World) : Gives Try.prog 6 #[rowV a, rowV b] w kBool.rs.res true := by
  have := fp2All_gives a b w
  rw [fp2All_law] at this
  exact this
theorem squares2_gives (a : Fp2) (n : UInt8) (w : World) : Gives Try.prog 5 #[rowV a, .int .u8 (n.toNat : Int)] w kBool.rs.res true := by
  have := fp2Squares_gives a n w
  rw [fp2Squares_law] at this
  exact this

end Go.Proofs.Ytehhcpopfgieeaa
