/- The statements of layer 7: their plain laws, and what their functions give. -/
import Derived.Test.YtehhcpopfgieeaaVd
import Derived.Test.YtehhcpopfgieeaaMk
import Derived.Test.YtehhcpopfgieeaaPp
set_option linter.unusedSimpArgs false
set_option linter.unusedVariables false
namespace Go.Proofs.Ytehhcpopfgieeaa
open Go.RowKit

theorem ends_gives' {α ρ : Type} {E : Env} {f : FuncId} {fn : Func} (hf : E.P.funcs[f]? = some fn) {c : Code} (hb : fn.body = some c) (k : KdL α) (x : α) (o : Out ρ) {F : ρ} (w : World)
    (h : DoesL E (flat c) (startSt fn (k.avs x) []) (EndsAs E fn (Reads o F))) : Gives E.P f (k.vals x).toArray w o.res F := by
  have := gives_ends hf hb (HRel.start w β0) (avs := k.avs x) (fun v hv => k.av_id x _ v hv) h
  rw [k.av_ok] at this
  exact this
theorem fp12Eq_refl (x : Fp12) : fp12Eq x x = true := (fp12Eq_iff x x).2 rfl
theorem fp12Eq_of {x y : Fp12} (h : x = y) : fp12Eq x y = true := (fp12Eq_iff x y).2 h
theorem begun7_L {f0 : Fp12 → Fp12 × Int} {f1 : Fp12 → Fp12 → Fp12} {f2 : Fp12} {f3 : Fp12 → Bool} (h1 : fp12Eq (f1 wFp12 wFp12) vFp12 = true) (h2 : ((f0 wFp12).2 == 0) = true) (h3 : fp12Eq (f1 wFp12 (f0 wFp12).1) f2 = true) (h4 : fp12Eq f2 oneFp12 = true) (h5 : f3 wFp12 = true) : begun7_G f0 f1 f2 f3 = true := by
  unfold begun7_G
  rw [h1, h2, h3, h4]
  exact h5
def ww : V12 := ⟨0, 1⟩
theorem ww_sq : ww * ww = Qd.of vv := Qd.ext' (by rw [Qd.mul_a]; show (0 : V6) * 0 + vv * (1 * 1) = vv; generalize vv = v; grind) (by rw [Qd.mul_b]; show (0 : V6) * 1 + 1 * 0 = 0; grind)
theorem w_ok12 : wFp12.ok := Fp12.mk_ok zero_ok6 one_ok6
theorem v_w12 : wFp12.v = ww := Fp12.mk_v v_zero6 v_one6
theorem v_ok12 : vFp12.ok := Fp12.mk_ok v_ok6 zero_ok6
theorem v_v12 : vFp12.v = Qd.of vv := Fp12.mk_v v_v6 v_zero6
theorem ww_ne : ww ≠ 0 := fun e => one_ne' (K := V6) (congrArg Qd.b e)
theorem begun7_true : begun7 = true := by
  have hw := w_ok12
  have hne : wFp12.v ≠ 0 := by rw [v_w12]; exact ww_ne
  obtain ⟨i1, i2, i3⟩ := (inv_v12 hw).2 hne
  unfold begun7
  refine begun7_L ?_ ?_ ?_ ?_ ?_
  · rw [fp12Eq_v (mul_ok12 hw hw) v_ok12, v_mul12 hw hw, v_w12, ww_sq, v_v12]
  · rw [i1]; rfl
  · rw [oneF12_eq, fp12Eq_v (mul_ok12 hw i2) one_ok12, v_mul12 hw i2, i3, mul_inv' hne, v_one12]
  · rw [oneF12_eq]; exact fp12Eq_refl _
  · exact (may12_iff _).2 hw
theorem begun7_ok' : CallOk Try.prog 45 (K0 kBool.rs.res true) := by
  have := begun7_ok
  rw [begun7_true] at this
  exact this

/-! ## Fp12All -/
theorem all12_ok : ∀ (c1 c2 c3 c4 c5 c6 c7 c8 c9 c10 c11 : Bool), (c2 && (!c1 || !c3 || (c4 && c5 && c6 && c7 && c8 && c9 && c10 && c11))) = true → (all12_run_T true c1 c2 c3 c4 c5 c6 c7 c8 c9 c10 c11).evalV = true := of_decide_eq_true (by kernel_rfl)
theorem all12_vc (c0 c1 c2 c3 c4 c5 c6 c7 c8 c9 c10 c11 : Bool) : (all12_run_T c0 c1 c2 c3 c4 c5 c6 c7 c8 c9 c10 c11).vcAll := by
  simp only [all12_run_T, Tree.vcAll, implies_true, and_true]
theorem all12_law (x y : Fp12) (e : UInt64) : ((mayF12 x == may12R x) && (!may12R x || !may12R y || (fp12Eq (addF12 x y) (add12R x y) && fp12Eq (subF12 x y) (sub12R x y) && fp12Eq (mulF12 x y) (mul12R x y) && fp12Eq (conjF12 x) (conj12R x) && mayF12 x && fp12Eq (invF12 x).1 (inv12R x).1 && ((invF12 x).2 == (inv12R x).2) && fp12Eq (powF12 x [e]) (pow12R x [e])))) = true := by
  rw [may12_eq x, beq_self_eq_true]
  cases hx' : may12R x with
  | false => rfl
  | true => cases hy' : may12R y with
    | false => rfl
    | true =>
      have hx := (may12R_iff x).1 hx'
      have hy := (may12R_iff y).1 hy'
      rw [add12R_eq, sub12R_eq, mul12R_eq hx hy, conj12R_eq, inv12R_eq hx, pow12R_eq hx]
      simp only [fp12Eq_refl, beq_self_eq_true]
      rfl
theorem all12_gives (x y : Fp12) (e : UInt64) (w : World) : Gives Try.prog 9 #[rowV x, rowV y, .int .u64 (e.toNat : Int)] w kBool.rs.res true :=
  ends_gives' (E := all12E true may12R mayF12 invF12 inv12R addF12 add12R subF12 sub12R mulF12 mul12R conjF12 conj12R powF12 pow12R) Try.func9 (c := codeOf Try.f9) (by kernel_rfl) (KdL.cons (kRow Fp12) (KdL.cons (kRow Fp12) (KdL.cons kU64 KdL.nil))) (x, y, e, ()) oB w
    (DoesL.ends (En_ok (.cons begun7_ok' (.cons may12R_ok (.cons mayF12_ok (.cons invF12_ok (.cons inv12R_ok (.cons addF12_ok (.cons add12R_ok (.cons subF12_ok (.cons sub12R_ok (.cons mulF12_ok (.cons mul12R_ok (.cons conjF12_ok (.cons conj12R_ok (.cons powF12_ok (.cons pow12R_ok .nil)))))))))))))))) 300 (all12_run true may12R mayF12 invF12 inv12R addF12 add12R subF12 sub12R mulF12 mul12R conjF12 conj12R powF12 pow12R x y e) (Tree.law_sat (all12_ok _ _ _ _ _ _ _ _ _ _ _ (all12_law x y e)) (all12_vc _ _ _ _ _ _ _ _ _ _ _ _)))

/-! ## Fp12Field -/
theorem field12_ok : ∀ (c1 c2 c3 c4 c5 c6 c7 c8 c9 c10 c11 c12 c13 : Bool), (!c1 || !c2 || !c3 || (c4 && c5 && c6 && c7 && c8 && c9 && (c10 && c11 || c12 && c13))) = true → (field12_run_T true c1 c2 c3 c4 c5 c6 c7 c8 c9 c10 c11 c12 c13).evalV = true := of_decide_eq_true (by kernel_rfl)
theorem field12_vc (c0 c1 c2 c3 c4 c5 c6 c7 c8 c9 c10 c11 c12 c13 : Bool) : (field12_run_T c0 c1 c2 c3 c4 c5 c6 c7 c8 c9 c10 c11 c12 c13).vcAll := by
  simp only [field12_run_T, Tree.vcAll, implies_true, and_true]
theorem one_limb (e : UInt64) : valL [e] = e.toNat := by
  show valAt [e] 1 = _
  simp [valAt, atF]
theorem shr1_nat (d : UInt64) : (shrU d 1).toNat = d.toNat / 2 := by
  have := d.toNat_lt
  unfold shrU
  rw [show (min (Int.toNat 1) 64) = 1 from rfl, UInt64.toNat_ofNat']
  omega
theorem sum_shr (d e : UInt64) : (shrU d 1 + shrU e 1).toNat = (shrU d 1).toNat + (shrU e 1).toNat := by
  have h1 := d.toNat_lt
  have h2 := e.toNat_lt
  rw [UInt64.toNat_add, shr1_nat, shr1_nat]
  omega
theorem field12_law (x y z : Fp12) (d e : UInt64) : (!may12R x || !may12R y || !may12R z || (fp12Eq (mulF12 (addF12 x y) z) (addF12 (mulF12 x z) (mulF12 y z)) && fp12Eq (mulF12 x (mulF12 y z)) (mulF12 (mulF12 x y) z) && fp12Eq (conjF12 (mulF12 x y)) (mulF12 (conjF12 x) (conjF12 y)) && fp12Eq (mulF12 x y) (mulF12 y x) && fp12Eq (conjF12 (conjF12 x)) x && fp12Eq (mulF12 (powF12 x [shrU d 1]) (powF12 x [shrU e 1])) (powF12 x [shrU d 1 + shrU e 1]) && (fp12Eq x zeroFp12 && ((invF12 x).2 == 7) || ((invF12 x).2 == 0) && fp12Eq (mulF12 x (invF12 x).1) oneF12))) = true := by
  cases hx' : may12R x with
  | false => rfl
  | true => cases hy' : may12R y with
    | false => rfl
    | true => cases hz' : may12R z with
      | false => rfl
      | true =>
        have hx := (may12R_iff x).1 hx'
        have hy := (may12R_iff y).1 hy'
        have hz := (may12R_iff z).1 hz'
        have xy := mul_ok12 hx hy
        have yz := mul_ok12 hy hz
        have xz := mul_ok12 hx hz
        have a := add_ok12 hx hy
        obtain ⟨p1, p2⟩ := pow_v12 hx [shrU d 1]
        obtain ⟨q1, q2⟩ := pow_v12 hx [shrU e 1]
        obtain ⟨r1, r2⟩ := pow_v12 hx [shrU d 1 + shrU e 1]
        have e1 : fp12Eq (mulF12 (addF12 x y) z) (addF12 (mulF12 x z) (mulF12 y z)) = true := (fp12Eq_v (mul_ok12 a hz) (add_ok12 xz yz)).2 (by rw [v_mul12 a hz, v_add12 xz yz, v_add12 hx hy, v_mul12 hx hz, v_mul12 hy hz]; exact CR.right_dist _ _ _)
        have e2 : fp12Eq (mulF12 x (mulF12 y z)) (mulF12 (mulF12 x y) z) = true := (fp12Eq_v (mul_ok12 hx yz) (mul_ok12 xy hz)).2 (by rw [v_mul12 hx yz, v_mul12 xy hz, v_mul12 hy hz, v_mul12 hx hy, CR.mul_assoc])
        have e3 : fp12Eq (conjF12 (mulF12 x y)) (mulF12 (conjF12 x) (conjF12 y)) = true := (fp12Eq_v (conj_ok12 xy) (mul_ok12 (conj_ok12 hx) (conj_ok12 hy))).2 (by rw [v_conj12 xy, v_mul12 (conj_ok12 hx) (conj_ok12 hy), v_mul12 hx hy, v_conj12 hx, v_conj12 hy, Qd.conj_mul])
        have e4 : fp12Eq (mulF12 x y) (mulF12 y x) = true := (fp12Eq_v xy (mul_ok12 hy hx)).2 (by rw [v_mul12 hx hy, v_mul12 hy hx, CR.mul_comm])
        have e5 : fp12Eq (conjF12 (conjF12 x)) x = true := (fp12Eq_v (conj_ok12 (conj_ok12 hx)) hx).2 (by rw [v_conj12 (conj_ok12 hx), v_conj12 hx]; exact Qd.ext' rfl (CR.neg_neg _))
        have e6 : fp12Eq (mulF12 (powF12 x [shrU d 1]) (powF12 x [shrU e 1])) (powF12 x [shrU d 1 + shrU e 1]) = true := (fp12Eq_v (mul_ok12 p1 q1) r1).2 (by rw [v_mul12 p1 q1, p2, q2, r2, eLow_valL, eLow_valL, eLow_valL, one_limb, one_limb, one_limb, sum_shr, pow_add'])
        obtain ⟨i1, i2⟩ := inv_v12 hx
        rw [e1, e2, e3, e4, e5, e6, oneF12_eq]
        by_cases h0 : x.v = 0
        · rw [i1 h0, fp12Eq_of ((v_eq_zero12 hx).1 h0)]
          rfl
        · obtain ⟨j1, j2, j3⟩ := i2 h0
          rw [j1, (fp12Eq_v (mul_ok12 hx j2) one_ok12).2 (by rw [v_mul12 hx j2, j3, mul_inv' h0, v_one12])]
          simp
theorem field12_gives (x y z : Fp12) (d e : UInt64) (w : World) : Gives Try.prog 8 #[rowV x, rowV y, rowV z, .int .u64 (d.toNat : Int), .int .u64 (e.toNat : Int)] w kBool.rs.res true :=
  ends_gives' (E := field12E true may12R invF12 addF12 mulF12 conjF12 powF12 oneF12) Try.func8 (c := codeOf Try.f8) (by kernel_rfl) (KdL.cons (kRow Fp12) (KdL.cons (kRow Fp12) (KdL.cons (kRow Fp12) (KdL.cons kU64 (KdL.cons kU64 KdL.nil))))) (x, y, z, d, e, ()) oB w
    (DoesL.ends (En_ok (.cons begun7_ok' (.cons may12R_ok (.cons invF12_ok (.cons addF12_ok (.cons mulF12_ok (.cons conjF12_ok (.cons powF12_ok (.cons oneF12_ok .nil))))))))) 300 (field12_run true may12R invF12 addF12 mulF12 conjF12 powF12 oneF12 x y z d e) (Tree.law_sat (field12_ok _ _ _ _ _ _ _ _ _ _ _ _ _ (field12_law x y z d e)) (field12_vc _ _ _ _ _ _ _ _ _ _ _ _ _ _)))

/-! ## Fp12Maps -/
theorem maps12_ok : ∀ (p0 p1 : Prop) (c1 c2 c3 c4 c5 c6 : Bool), (!c1 || !c2 || !c3 || (c4 && c5 && c6)) = true → (maps12_run_T true c1 c2 c3 c4 c5 c6 p0 p1).evalV = true := fun p0 p1 => of_decide_eq_true (by kernel_rfl)
theorem maps12_vc {p0 p1 : Prop} (h0 : p0) (h1 : p1) (c0 c1 c2 c3 c4 c5 c6 : Bool) : (maps12_run_T c0 c1 c2 c3 c4 c5 c6 p0 p1).vcAll := by
  simp only [maps12_run_T, Tree.vcAll, h0, h1, implies_true, and_true]
theorem times_len' (a b : List UInt64) : (timesF a b).length ≤ a.length + b.length + 1 := by
  have h := cutF_len (packAt (accAt (rhvsF a) (rhvsF b) (rhvsF a).length) (((rhvsF a).length + (rhvsF b).length + 2) / 2))
  rw [packAt_len] at h
  have h2 : (timesF a b).length ≤ ((rhvsF a).length + (rhvsF b).length + 2) / 2 := h
  rw [rhvs_len, rhvs_len] at h2
  omega
theorem pp_val : valL (timesF pLimbs.list pLimbs.list) = pN * pN := by rw [timesF_val, valL_list, pLimbs_nat]
theorem pow_pp {R : Type} [CR R] (a : R) : a ^ (pN * pN) = (a ^ pN) ^ pN := pow_mul' a pN pN
/-- What lies in Fp2. -/
def in2 (c : V2) : V12 := Qd.of (Cb.of c)
theorem in2_mul (c d : V2) : in2 (c * d) = in2 c * in2 d := by unfold in2; rw [Cb.of_mul, Qd.of_mul]
theorem in2_pow (c : V2) : ∀ n : Nat, in2 c ^ n = in2 (c ^ n)
  | 0 => rfl
  | n + 1 => by rw [pow_succ', in2_pow c n, pow_succ', in2_mul]
theorem in2_pp (c : V2) : in2 c ^ (pN * pN) = in2 c := by
  rw [pow_pp, in2_pow, in2_pow, V2.frob, V2.frob]
  exact congrArg in2 (Qd.ext' rfl (CR.neg_neg _))
theorem maps12_law (x y : Fp12) (c : Fp2) : (!may12R x || !may12R y || !may2R c || (fp12Eq (powF12 (addF12 x y) (timesF pLimbs.list pLimbs.list)) (addF12 (powF12 x (timesF pLimbs.list pLimbs.list)) (powF12 y (timesF pLimbs.list pLimbs.list))) && fp12Eq (powF12 (mulF12 x y) (timesF pLimbs.list pLimbs.list)) (mulF12 (powF12 x (timesF pLimbs.list pLimbs.list)) (powF12 y (timesF pLimbs.list pLimbs.list))) && fp12Eq (powF12 ⟨⟨c, zeroFp2, zeroFp2⟩, zeroFp6⟩ (timesF pLimbs.list pLimbs.list)) ⟨⟨c, zeroFp2, zeroFp2⟩, zeroFp6⟩)) = true := by
  cases hx' : may12R x with
  | false => rfl
  | true => cases hy' : may12R y with
    | false => rfl
    | true => cases hc' : may2R c with
      | false => rfl
      | true =>
        have hx := (may12R_iff x).1 hx'
        have hy := (may12R_iff y).1 hy'
        have hc := (may2R_iff c).1 hc'
        have hs : (⟨⟨c, zeroFp2, zeroFp2⟩, zeroFp6⟩ : Fp12).ok := Fp12.mk_ok (Fp6.mk_ok hc zero_ok2 zero_ok2) zero_ok6
        have vs : (⟨⟨c, zeroFp2, zeroFp2⟩, zeroFp6⟩ : Fp12).v = in2 c.v := Fp12.mk_v (Fp6.mk_v rfl v_zero2 v_zero2) v_zero6
        have key : ∀ {z : Fp12}, z.ok → (powF12 z (timesF pLimbs.list pLimbs.list)).ok ∧ (powF12 z (timesF pLimbs.list pLimbs.list)).v = z.v ^ (pN * pN) := fun {z} hz => by
          obtain ⟨p1, p2⟩ := pow_v12 hz (timesF pLimbs.list pLimbs.list)
          exact ⟨p1, by rw [p2, eLow_valL, pp_val]⟩
        have e1 := (fp12Eq_v (key (add_ok12 hx hy)).1 (add_ok12 (key hx).1 (key hy).1)).2 (by
          rw [(key (add_ok12 hx hy)).2, v_add12 (key hx).1 (key hy).1, (key hx).2, (key hy).2, v_add12 hx hy, pow_pp, pow_pp, pow_pp, dream prime_p V12.char, dream prime_p V12.char])
        have e2 := (fp12Eq_v (key (mul_ok12 hx hy)).1 (mul_ok12 (key hx).1 (key hy).1)).2 (by
          rw [(key (mul_ok12 hx hy)).2, v_mul12 (key hx).1 (key hy).1, (key hx).2, (key hy).2, v_mul12 hx hy, mul_pow'])
        have e3 := (fp12Eq_v (key hs).1 hs).2 (by rw [(key hs).2, vs, in2_pp])
        rw [e1, e2, e3]
        rfl
theorem maps12_gives (x y : Fp12) (c : Fp2) (w : World) : Gives Try.prog 7 #[rowV x, rowV y, rowV c] w kBool.rs.res true :=
  ends_gives' (E := maps12E true may12R may2R timesF pLimbs powF12 addF12 mulF12) Try.func7 (c := codeOf Try.f7) (by kernel_rfl) (KdL.cons (kRow Fp12) (KdL.cons (kRow Fp12) (KdL.cons (kRow Fp2) KdL.nil))) (x, y, c, ()) oB w (by
    have k1 : (timesF pLimbs.list pLimbs.list).length < 1125899906842624 := Nat.lt_of_le_of_lt (times_len' pLimbs.list pLimbs.list) (by decide)
    refine DoesL.ends (Ens_ok (.cons begun7_ok' (.cons may12R_ok (.cons may2R_ok (.cons times_ok (.cons refP_ok (.cons powF12_ok (.cons addF12_ok (.cons mulF12_ok .nil))))))))) 300 (maps12_run true may12R may2R timesF pLimbs powF12 addF12 mulF12 x y c) (Tree.law_sat (maps12_ok _ _ _ _ _ _ _ _ ?_) (maps12_vc ?_ ?_ _ _ _ _ _ _ _))
    · have := maps12_law x y c
      show (_ : Bool) = true
      rw [show ([pLimbs.l0, pLimbs.l1, pLimbs.l2, pLimbs.l3, pLimbs.l4, pLimbs.l5] : List UInt64) = pLimbs.list from rfl, whole]
      exact this
    · exact ⟨by show 6 < _; decide, by show 6 < _; decide⟩
    · exact okL' k1)

end Go.Proofs.Ytehhcpopfgieeaa
