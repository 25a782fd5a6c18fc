/- The statements of layer 6: their plain laws, and what their functions give. -/
import Derived.Test.YtehhcpopfgieeaaVc
import Derived.Test.YtehhcpopfgieeaaPn
set_option linter.unusedSimpArgs false
set_option linter.unusedVariables false
namespace Go.Proofs.Ytehhcpopfgieeaa
open Go.RowKit

theorem fp6Eq_refl (x : Fp6) : fp6Eq x x = true := (fp6Eq_iff x x).2 rfl
theorem fp6Eq_of {x y : Fp6} (h : x = y) : fp6Eq x y = true := (fp6Eq_iff x y).2 h
theorem begun6_L {f0 : Fp6 → Fp6 × Int} {f1 : Fp6 → Fp6} {f2 : Fp6 → Fp6 → Fp6} {f3 : Fp6 → Bool} {f4 f5 : Fp6 → Fp6 → Fp6} (h1 : fp6Eq (f1 vFp6) (f2 vFp6 vFp6) = true) (h2 : ((f0 vFp6).2 == 0) = true) (h3 : fp6Eq (f2 vFp6 (f0 vFp6).1) oneFp6 = true) (h4 : f3 vFp6 = true) (h5 : fp6Eq (f4 (f5 vFp6 vFp6) vFp6) vFp6 = true) : begun6_G f0 f1 f2 f3 f4 f5 = true := by
  unfold begun6_G
  rw [h1, h2, h3, h4]
  exact h5
theorem vv_ne : vv ≠ 0 := fun e => one_ne' (K := V2) (congrArg Cb.b e)
theorem begun6_true : begun6 = true := by
  have hv := v_ok6
  have hne : vFp6.v ≠ 0 := by rw [v_v6]; exact vv_ne
  obtain ⟨i1, i2, i3⟩ := (inv_v6 hv).2 hne
  unfold begun6
  refine begun6_L ?_ ?_ ?_ ?_ ?_
  · rw [fp6Eq_v (up_ok6 hv) (mul_ok6 hv hv), v_up6 hv, v_mul6 hv hv, v_v6]
  · rw [i1]; rfl
  · rw [fp6Eq_v (mul_ok6 hv i2) one_ok6, v_mul6 hv i2, i3, mul_inv' hne, v_one6]
  · exact (may6_iff _).2 hv
  · rw [fp6Eq_v (sub_ok6 (add_ok6 hv hv) hv) hv, v_sub6 (add_ok6 hv hv) hv, v_add6 hv hv]
    generalize vFp6.v = x
    grind
theorem begun6_ok' : CallOk Try.prog 12 (K0 kBool.rs.res true) := by
  have := begun6_ok
  rw [begun6_true] at this
  exact this

theorem fp6All_L {f0 : Bool} {f1 f2 : Fp6 → Bool} {f3 f4 : Fp6 → Fp6 × Int} {f5 f6 f7 f8 : Fp6 → Fp6 → Fp6} {f9 f10 : Fp6 → Fp6} {f11 f12 : Fp6 → Fp6 → Fp6} {f13 f14 : Fp6 → Fp6} {a b : Fp6}
    (h0 : f0 = true) (h2 : f2 a = f1 a) (h : f1 a = true → f1 b = true → f5 a b = f6 a b ∧ f7 a b = f8 a b ∧ f9 a = f10 a ∧ f11 a b = f12 a b ∧ f13 a = f14 a ∧ f3 a = f4 a) :
    fp6All_G f0 f1 f2 f3 f4 f5 f6 f7 f8 f9 f10 f11 f12 f13 f14 a b = true := by
  unfold fp6All_G
  subst h0
  rw [h2]
  cases h1 : f1 a with
  | false => simp
  | true =>
    cases hb : f1 b with
    | false => simp
    | true =>
      obtain ⟨e1, e2, e3, e4, e5, e7⟩ := h h1 hb
      rw [e1, e2, e3, e4, e5, e7]
      simp [fp6Eq_refl]
theorem fp6All_law (a b : Fp6) : fp6All a b = true := by
  unfold fp6All
  refine fp6All_L begun6_true (may6_eq a) fun ha hb => ?_
  have ha := (may6R_iff a).1 ha
  have hb := (may6R_iff b).1 hb
  exact ⟨(add6R_eq a b).symm, (sub6R_eq a b).symm, (neg6R_eq a).symm, (mul6R_eq ha hb).symm, (up6R_eq ha).symm, (inv6R_eq ha).symm⟩

theorem fp6Field_L {f0 : Bool} {f1 : Fp6 → Bool} {f2 : Fp6 → Fp6 × Int} {f3 f4 : Fp6 → Fp6 → Fp6} {f5 : Fp6 → Fp6} {a b c : Fp6} (h0 : f0 = true)
    (h : f1 a = true → f1 b = true → f1 c = true → fp6Eq (f4 (f3 a b) c) (f3 (f4 a c) (f4 b c)) = true ∧ fp6Eq (f4 a (f4 b c)) (f4 (f4 a b) c) = true ∧ fp6Eq (f4 a b) (f4 b a) = true ∧ fp6Eq (f5 a) (f4 a vFp6) = true ∧ fp6Eq (f4 (f4 vFp6 vFp6) vFp6) ⟨xiFp2, zeroFp2, zeroFp2⟩ = true ∧ ((fp6Eq a zeroFp6 = true ∧ ((f2 a).2 == 7) = true) ∨ (fp6Eq a zeroFp6 = false ∧ ((f2 a).2 == 0) = true ∧ fp6Eq (f4 a (f2 a).1) oneFp6 = true))) :
    fp6Field_G f0 f1 f2 f3 f4 f5 a b c = true := by
  unfold fp6Field_G
  subst h0
  cases ha : f1 a with
  | false => rfl
  | true => cases hb : f1 b with
    | false => rfl
    | true => cases hc : f1 c with
      | false => rfl
      | true =>
        obtain ⟨e1, e2, e3, e4, e5, e6⟩ := h ha hb hc
        rw [e1, e2, e3, e4, e5]
        rcases e6 with ⟨k1, k2⟩ | ⟨k1, k2, k3⟩
        · rw [k1, k2]; rfl
        · rw [k1, k2]; exact k3
theorem xi_v6 : (⟨xiFp2, zeroFp2, zeroFp2⟩ : Fp6).ok ∧ (⟨xiFp2, zeroFp2, zeroFp2⟩ : Fp6).v = Cb.of xi := by
  have h1 : xiFp2.ok := Fp2.mk_ok one_ok' one_ok'
  have h2 : xiFp2.v = xi := Fp2.mk_v v_one v_one
  exact ⟨Fp6.mk_ok h1 zero_ok2 zero_ok2, Fp6.mk_v h2 v_zero2 v_zero2⟩
theorem vv_cube : vv * vv * vv = Cb.of xi := by
  have e1 : vv * vv = ⟨0, 0, 1⟩ := (up_cb vv).trans (Cb.ext' (by show CP.cr * (0 : V2) = 0; exact CR.mul_zero _) rfl rfl)
  have e2 : vv * (⟨0, 0, 1⟩ : V6) = Cb.of xi := (up_cb _).trans (Cb.ext' (by show xi * (1 : V2) = xi; exact CR.mul_one _) rfl rfl)
  rw [e1, CR.mul_comm, e2]
theorem fp6Field_law (x y z : Fp6) : fp6Field x y z = true := by
  unfold fp6Field
  refine fp6Field_L begun6_true fun hx hy hz => ?_
  have hx := (may6R_iff x).1 hx
  have hy := (may6R_iff y).1 hy
  have hz := (may6R_iff z).1 hz
  have xy := mul_ok6 hx hy
  have yz := mul_ok6 hy hz
  have xz := mul_ok6 hx hz
  have a := add_ok6 hx hy
  have hv := v_ok6
  have vv2 := mul_ok6 hv hv
  obtain ⟨i1, i2⟩ := inv_v6 hx
  refine ⟨?_, ?_, ?_, ?_, ?_, ?_⟩
  · exact (fp6Eq_v (mul_ok6 a hz) (add_ok6 xz yz)).2 (by rw [v_mul6 a hz, v_add6 xz yz, v_add6 hx hy, v_mul6 hx hz, v_mul6 hy hz]; exact CR.right_dist _ _ _)
  · exact (fp6Eq_v (mul_ok6 hx yz) (mul_ok6 xy hz)).2 (by rw [v_mul6 hx yz, v_mul6 xy hz, v_mul6 hy hz, v_mul6 hx hy, CR.mul_assoc])
  · exact (fp6Eq_v xy (mul_ok6 hy hx)).2 (by rw [v_mul6 hx hy, v_mul6 hy hx, CR.mul_comm])
  · exact (fp6Eq_v (up_ok6 hx) (mul_ok6 hx hv)).2 (by rw [v_up6 hx, v_mul6 hx hv, v_v6, CR.mul_comm])
  · exact (fp6Eq_v (mul_ok6 vv2 hv) xi_v6.1).2 (by rw [v_mul6 vv2 hv, v_mul6 hv hv, v_v6, xi_v6.2, vv_cube])
  · by_cases h0 : x.v = 0
    · left
      rw [i1 h0]
      exact ⟨fp6Eq_of ((v_eq_zero6 hx).1 h0), rfl⟩
    · right
      obtain ⟨j1, j2, j3⟩ := i2 h0
      refine ⟨?_, by rw [j1]; rfl, (fp6Eq_v (mul_ok6 hx j2) one_ok6).2 (by rw [v_mul6 hx j2, j3, mul_inv' h0, v_one6])⟩
      rw [← Bool.not_eq_true, fp6Eq_v hx zero_ok6, v_zero6]
      exact h0
theorem all6_gives (a b : Fp6) (w : World) : Gives Try.prog 4 #[rowV a, rowV b] w kBool.rs.res true := by
  have := fp6All_gives a b w
  rw [fp6All_law] at this
  exact this
theorem field6_gives (a b c : Fp6) (w : World) : Gives Try.prog 3 #[rowV a, rowV b, rowV c] w kBool.rs.res true := by
  have := fp6Field_gives a b c w
  rw [fp6Field_law] at this
  exact this

end Go.Proofs.Ytehhcpopfgieeaa
