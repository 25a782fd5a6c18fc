/- The statements of layer 8: plain laws. -/
import Derived.Test.YtchlamfdofpolaaSd
import Derived.Test.YtchlamfdofpolaaQi
set_option linter.unusedSimpArgs false
set_option linter.unusedVariables false
namespace Go.Proofs.Ytchlamfdofpolaa
open Go.RowKit

theorem pg1Eq_refl (a : Pg1) : pg1Eq a a = true := (pg1Eq_iff a a).2 rfl
theorem eq1_of {a b : Pg1} (ha : a.good) (hb : b.good) (h : a.pt = b.pt) : eqG1 a b = true := by rw [eqG1_eq]; exact (pg1Eq_pt ha.1 hb.1).2 h
theorem pt1_none {a : Pg1} (ha : a.good) : a.inf = true ↔ a.pt = .inf := by
  cases hi : a.inf with
  | true => rw [pt1_inf hi]; simp
  | false => rw [pt1_aff hi]; simp
theorem jc_zero {X Y Z : V1} (h : Jc X Y Z .inf) : Z = 0 := h
theorem inf_mul_none : infG1.pt.mul qN = .inf := by rw [pt1_infG]; exact mul_inf_pt _
theorem inG1_def (f0 : Pg1 → Bool) (f1 : Fp → Bool) (f2 : Sp1 → List UInt64 → Sp1) (f3 : Pg1 → Sp1) (f4 : Fr) (a : Pg1) : inG1_G f0 f1 f2 f3 f4 a = (f0 a && f1 (f2 (f3 a) f4.list).z) := by
  unfold inG1_G
  cases f0 a <;> rfl
theorem rel1_none {s : Sp1} {p : Pt V1} (h : rel1 s p) : zeroG1 s.z = true ↔ p = .inf := by
  rw [m1_zero h.1.2.2]
  constructor
  · exact h.2.inf_of
  · intro e
    subst e
    exact jc_zero h.2
theorem in1_iff (a : Pg1) : inG1 a = true ↔ a.good ∧ a.pt.mul qN = .inf := by
  have key : a.good → (zeroG1 (timesG1 (liftG1 a) rLimbs.list).z = true ↔ a.pt.mul qN = .inf) := fun hg => by
    rw [← rLimbs_val]
    exact rel1_none (times1_pt hg.2 (lift1_rel hg) rLimbs.list)
  unfold inG1
  rw [inG1_def, Bool.and_eq_true, on1_iff]
  exact ⟨fun h => ⟨h.1, (key h.1).1 h.2⟩, fun h => ⟨h.1, (key h.1).2 h.2⟩⟩
theorem in1R_def (f0 : Fp6 → Pg1) (f1 : Fp6 → List UInt64 → Bool → Fp6) (f2 : Pg1 → Fp6) (f3 : Fr) (a : Pg1) : in1R_G f0 f1 f2 f3 a = (f0 (f1 (f2 a) f3.list true)).inf := rfl
theorem in1R_iff {a : Pg1} (ha : a.good) : in1R a = true ↔ a.pt.mul qN = .inf := by
  unfold in1R
  rw [in1R_def]
  have h := to1_rel (mul_on ha.2 _) (times_rel1 ha.2 (of1_rel ha) rLimbs.list)
  rw [pt1_none h.1, h.2, rLimbs_val]
theorem in1R_eq {a : Pg1} (ha : a.good) : in1R a = inG1 a := Bool.eq_iff_iff.2 (by rw [in1R_iff ha, in1_iff]; exact ⟨fun h => ⟨ha, h⟩, fun h => h.2⟩)
/-- So many times the generator. -/
theorem gmul1 (k : Fr) : (mulG1 oneG1 k).good ∧ (mulG1 oneG1 k).pt = oneG1.pt.mul k.nat := mul1_pt gen1_good k
theorem gmul1_in (n : Nat) : (oneG1.pt.mul n).mul qN = .inf := by rw [← mul_mul_pt gen1_good.2, Nat.mul_comm, mul_mul_pt gen1_good.2, gen1_order, mul_inf_pt]
theorem gmul1_mod (n : Nat) : oneG1.pt.mul (n % qN) = oneG1.pt.mul n := mul_mod_pt gen1_good.2 gen1_order n

/-! ## begun -/
theorem begun8_L {f0 f1 : Pg1} {f2 : Pg1 → Bool} {f3 : Pg1 → Pg1 → Pg1} {f4 : Pg1 → Pg1} {f5 : Pg1 → Fr → Pg1} {f6 : Pg1 → Pg1 → Bool} {f7 : Pg1 → Bool} (h1 : pg1Eq f0 f1 = true) (h2 : f2 f0 = true) (h3 : pg1Eq (f3 f0 (f4 f0)) infG1 = true) (h4 : pg1Eq (f5 f0 ⟨2, 0, 0, 0⟩) (f3 f0 f0) = true) (h5 : f6 f0 f0 = true) (h6 : f7 f0 = true) : begun8_G f0 f1 f2 f3 f4 f5 f6 f7 = true := by
  unfold begun8_G
  rw [h1, h2, h3, show (⟨UInt64.ofNat 2, UInt64.ofNat 0, UInt64.ofNat 0, UInt64.ofNat 0⟩ : Fr) = ⟨2, 0, 0, 0⟩ from rfl, h4, h5]
  exact h6
theorem opp1 {a : Pg1} (ha : a.good) : (addG1 a (negG1 a)).good ∧ (addG1 a (negG1 a)).pt = .inf := by
  obtain ⟨n1, n2⟩ := neg1_pt ha
  obtain ⟨h1, h2⟩ := add1_pt ha n1
  exact ⟨h1, by rw [h2, n2, add_comm_pt ha.2 (neg_on ha.2), neg_add_pt ha.2]⟩
theorem two_nat : (⟨2, 0, 0, 0⟩ : Fr).nat = 2 := by decide +kernel
theorem begun8_true : begun8 = true := by
  have hg := gen1_good
  obtain ⟨o1, o2⟩ := opp1 hg
  obtain ⟨m1, m2⟩ := gmul1 ⟨2, 0, 0, 0⟩
  obtain ⟨a1, a2⟩ := add1_pt hg hg
  unfold begun8
  refine begun8_L ?_ ?_ ?_ ?_ ?_ ?_
  · rw [gen1_eq]; exact pg1Eq_refl _
  · exact (on1_iff _).2 hg
  · exact (pg1Eq_pt o1.1 good_inf1.1).2 o2
  · exact (pg1Eq_pt m1.1 a1.1).2 (by rw [m2, a2, two_nat, mul_succ_pt, mul_one_pt])
  · exact eq1_of hg hg rfl
  · exact (in1_iff _).2 ⟨hg, gen1_order⟩
/-! ## Out -/
theorem out8_G_good {f0 : UInt64 → Fp} {f1 : Fp → Fp × Bool} {f2 f3 : Fp → Fp → Fp} {Q : Pg1 → Prop} (h : ∀ x, (f1 (f2 (f3 (f3 (f0 x) (f0 x)) (f0 x)) (f0 4))).2 = true → Q ⟨f0 x, (f1 (f2 (f3 (f3 (f0 x) (f0 x)) (f0 x)) (f0 4))).1, false⟩) (n : UInt64) : (out8_G f0 f1 f2 f3 n).2 = true → Q (out8_G f0 f1 f2 f3 n).1 := by
  unfold out8_G
  repeat (split; (rename_i hq; exact fun _ => h _ hq))
  intro e
  cases e
theorem out8_good {n : UInt64} (h : (out8 n).2 = true) : (out8 n).1.good := by
  unfold out8 at h ⊢
  refine out8_G_good (Q := Pg1.good) (fun x hx => ?_) n h
  have h4 := ofF_ok x
  have h5 : (ofF 4).ok := ofF_ok 4
  rw [mulPF_eq h4 h4, mulPF_eq (mul_ok' h4) h4, addPF_eq] at hx ⊢
  have hr := add_ok' (mul_ok' (b := ofF x) (mul_ok' (b := ofF x) h4)) h5
  rw [sqrtPF_eq hr] at hx ⊢
  have hv := sqrt_v hr hx
  rw [v_add (mul_ok' (mul_ok' h4)) h5, v_mul (mul_ok' h4) h4, v_mul h4 h4] at hv
  refine (good1_mk h4 (sqrt_ok' hr) rfl rfl ?_).1
  show (sqrtF _).1.v * (sqrtF _).1.v = _
  rw [hv, show (ofF 4).v = Crv.b from bFp1_v.2]

/-! ## point -/
theorem point8_true {f0 : UInt64 → Pg1 × Bool} {f1 : Pg1 → Fr → Pg1} {f2 : Pg1} {k : Fr} {n : UInt64} (h : (f0 n).2 = true) : point8_G f0 f1 f2 k n true = (f0 n).1 := by
  unfold point8_G
  rw [h]
theorem point8_false {f0 : UInt64 → Pg1 × Bool} {f1 : Pg1 → Fr → Pg1} {f2 : Pg1} {k : Fr} {n : UInt64} {out : Bool} (h : out = false ∨ (f0 n).2 = false) : point8_G f0 f1 f2 k n out = f1 f2 k := by
  unfold point8_G
  rcases h with h | h
  · rw [h]
  · rw [h]
    cases out <;> rfl
theorem gtimes1 (k : Fr) : times1R gen1R k = mulG1 oneG1 k := by rw [gen1_eq]; exact times1R_eq gen1_good k
theorem point8_good (k : Fr) (n : UInt64) (out : Bool) : (point8 k n out).good := by
  unfold point8
  cases out with
  | false => rw [point8_false (.inl rfl), gtimes1]; exact (gmul1 k).1
  | true =>
    cases h : (out8 n).2 with
    | false => rw [point8_false (.inr h), gtimes1]; exact (gmul1 k).1
    | true => rw [point8_true h]; exact out8_good h

/-! ## G1All -/
theorem g1All_L {f0 : Bool} {f1 : Fr → Bool} {f2 : Fr → UInt64 → Bool → Pg1} {f3 f4 : Pg1 → Pg1 → Pg1} {f5 f6 : Pg1 → Pg1} {f7 f8 : Pg1 → Fr → Pg1} {f9 : Pg1 → Pg1 → Bool} {f10 : Pg1 → Bool} {a b : Fr} {n : UInt64} {out same : Bool} {k : Fr} (h0 : f0 = true)
    (h : ∀ p q, (p = f2 a n out) → (q = f2 a n out ∨ q = f2 b (n / 7) false) → pg1Eq (f3 p q) (f4 p q) = true ∧ pg1Eq (f5 p) (f6 p) = true ∧ pg1Eq (f7 p k) (f8 p k) = true ∧ (f9 p q == pg1Eq p q) = true ∧ f9 p p = true ∧ f10 p = true) :
    g1All_G f0 f1 f2 f3 f4 f5 f6 f7 f8 f9 f10 a b n out same k = true := by
  unfold g1All_G
  subst h0
  cases f1 a with
  | false => rfl
  | true => cases f1 b with
    | false => rfl
    | true => cases f1 k with
      | false => rfl
      | true => cases same with
        | true =>
          obtain ⟨e1, e2, e3, e4, e5, e6⟩ := h _ _ rfl (.inl rfl)
          rw [e1, e2, e3, e4, e5]
          exact e6
        | false =>
          obtain ⟨e1, e2, e3, e4, e5, e6⟩ := h _ _ rfl (.inr rfl)
          rw [show UInt64.ofNat 7 = 7 from rfl, e1, e2, e3, e4, e5]
          exact e6
theorem g1All_law (a b : Fr) (n : UInt64) (out same : Bool) (k : Fr) : g1All a b n out same k = true := by
  unfold g1All
  refine g1All_L begun8_true fun p q hp hq => ?_
  have gp : p.good := by rw [hp]; exact point8_good _ _ _
  have gq : q.good := by
    rcases hq with hq | hq
    · rw [hq]; exact point8_good _ _ _
    · rw [hq]; exact point8_good _ _ _
  rw [plus1R_eq gp gq, minus1R_eq, times1R_eq gp, eqG1_eq, eqG1_eq]
  exact ⟨pg1Eq_refl _, pg1Eq_refl _, pg1Eq_refl _, beq_self_eq_true _, pg1Eq_refl _, (on1_iff _).2 gp⟩

/-! ## G1Group -/
theorem g1Group_L {f0 : Bool} {f1 : Fr → Bool} {f2 : UInt64 → Pg1 × Bool} {f3 : Pg1 → Fr → Pg1} {f4 : Pg1} {f5 : Pg1 → Bool} {f6 : Pg1 → Pg1 → Pg1} {f7 : Pg1 → Pg1 → Bool} {f8 : Pg1 → Pg1} {f9 : Pg1 → Bool} {f10 f11 : Fr → Fr → Fr} {a b : Fr} {n : UInt64} {out : Bool} (h0 : f0 = true)
    (h : f1 a = true → f1 b = true → ∀ p : Pg1, f5 p = true → f7 (f6 (f6 p (f3 f4 b)) (f6 (f3 f4 b) (f3 f4 b))) (f6 p (f6 (f3 f4 b) (f6 (f3 f4 b) (f3 f4 b)))) = true ∧ f7 (f6 p (f3 f4 b)) (f6 (f3 f4 b) p) = true ∧ f7 (f6 p infG1) p = true ∧ f7 (f6 p (f8 p)) infG1 = true ∧ f5 (f6 p (f3 f4 b)) = true ∧ f9 (f3 f4 b) = true ∧
      (p = f3 f4 a → f7 (f6 p (f3 f4 b)) (f3 f4 (f10 a b)) = true ∧ f7 (f3 p b) (f3 f4 (f11 a b)) = true ∧ f9 p = true)) :
    g1Group_G f0 f1 f2 f3 f4 f5 f6 f7 f8 f9 f10 f11 a b n out = true := by
  unfold g1Group_G
  subst h0
  cases ha : f1 a with
  | false => rfl
  | true => cases hb : f1 b with
    | false => rfl
    | true => cases out with
      | false => cases h5 : f5 (f3 f4 a) with
        | false => rfl
        | true =>
          obtain ⟨e1, e2, e3, e4, _, _, e6⟩ := h ha hb _ h5
          obtain ⟨k1, k2, k3⟩ := e6 rfl
          rw [e1, e2, e3, e4, k1, k2]
          exact k3
      | true => cases h5 : f5 (f2 n).1 with
        | false => rfl
        | true =>
          obtain ⟨e1, e2, e3, e4, k1, k2, _⟩ := h ha hb _ h5
          rw [e1, e2, e3, e4, k1]
          exact k2
theorem g1Group_law (a b : Fr) (n : UInt64) (out : Bool) : g1Group a b n out = true := by
  unfold g1Group
  refine g1Group_L begun8_true fun ha hb p hp => ?_
  rw [mayRF_nat, decide_eq_true_eq] at ha hb
  have gp := (on1_iff p).1 hp
  obtain ⟨gq, q2⟩ := gmul1 b
  generalize hq : mulG1 oneG1 b = q at *
  obtain ⟨gr, r2⟩ := add1_pt gq gq
  obtain ⟨s1, s2⟩ := add1_pt gp gq
  obtain ⟨t1, t2⟩ := add1_pt s1 gr
  obtain ⟨u1, u2⟩ := add1_pt gq gr
  obtain ⟨w1, w2⟩ := add1_pt gp u1
  obtain ⟨x1, x2⟩ := add1_pt gq gp
  obtain ⟨y1, y2⟩ := add1_pt gp good_inf1
  obtain ⟨z1, z2⟩ := opp1 gp
  refine ⟨eq1_of t1 w1 ?_, eq1_of s1 x1 ?_, eq1_of y1 gp ?_, eq1_of z1 good_inf1 z2, (on1_iff _).2 s1, (in1_iff _).2 ⟨gq, by rw [q2]; exact gmul1_in _⟩, fun e => ?_⟩
  · rw [t2, s2, w2, u2, r2]
    exact add_assoc_pt gp.2 gq.2 (add_on gq.2 gq.2)
  · rw [s2, x2]
    exact add_comm_pt gp.2 gq.2
  · rw [y2, pt1_infG, add_inf]
  · obtain ⟨ga, a2⟩ := gmul1 a
    obtain ⟨v1, v2⟩ := gmul1 (addRF a b)
    obtain ⟨c1, c2⟩ := gmul1 (mulRF a b)
    obtain ⟨d1, d2⟩ := mul1_pt gp b
    have ep : p.pt = oneG1.pt.mul a.nat := by rw [e]; exact a2
    rw [addRF_nat ha hb, gmul1_mod (a.nat + b.nat), mul_add_pt gen1_good.2] at v2
    rw [mulRF_nat hb, gmul1_mod (a.nat * b.nat), mul_mul_pt gen1_good.2] at c2
    rw [ep] at s2 d2
    rw [q2] at s2
    exact ⟨eq1_of s1 v1 (s2.trans v2.symm), eq1_of d1 c1 (d2.trans c2.symm), (in1_iff _).2 ⟨gp, by rw [ep]; exact gmul1_in _⟩⟩

/-! ## G1Out -/
theorem g1Out_L {f0 : Bool} {f1 : UInt64 → Pg1 × Bool} {f2 : Fr → Bool} {f3 : Pg1 → Pg1 → Pg1} {f4 : Pg1 → Fr → Pg1} {f5 : Pg1} {f6 f7 : Pg1 → Bool} {f8 : Pg1 → Fr → Pg1} {n : UInt64} {k : Fr} {small : UInt8} (h0 : f0 = true)
    (h : (f1 n).2 = true → (f6 (f1 n).1 == f7 (f1 n).1) = true ∧ (f6 (f3 (f1 n).1 (f4 f5 k)) == f7 (f3 (f1 n).1 (f4 f5 k))) = true ∧ f6 infG1 = true ∧ ∀ j, pg1Eq (f8 (f1 n).1 j) (f4 (f1 n).1 j) = true) :
    g1Out_G f0 f1 f2 f3 f4 f5 f6 f7 f8 n k small = true := by
  unfold g1Out_G
  subst h0
  cases h1 : (f1 n).2 with
  | false => rfl
  | true => cases f2 k with
    | false => rfl
    | true =>
      obtain ⟨e1, e2, e3, e4⟩ := h h1
      rw [e1, e2, e3]
      exact e4 _
theorem g1Out_law (n : UInt64) (k : Fr) (small : UInt8) : g1Out n k small = true := by
  unfold g1Out
  refine g1Out_L begun8_true fun h => ?_
  have gp := out8_good h
  have gq := (plus1R_pt gp (show (times1R gen1R k).good by rw [gtimes1]; exact (gmul1 k).1)).1
  refine ⟨?_, ?_, (in1_iff _).2 ⟨good_inf1, inf_mul_none⟩, fun j => ?_⟩
  · rw [in1R_eq gp]; exact beq_self_eq_true _
  · rw [in1R_eq gq]; exact beq_self_eq_true _
  · rw [times1R_eq gp]; exact pg1Eq_refl _

end Go.Proofs.Ytchlamfdofpolaa
