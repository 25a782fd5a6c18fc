/- The statements of layer 9: plain laws. -/
import Derived.Test.YtchlamfdofpolaaWe
set_option linter.unusedSimpArgs false
set_option linter.unusedVariables false
namespace Go.Proofs.Ytchlamfdofpolaa
open Go.RowKit

theorem pg2Eq_refl (a : Pg2) : pg2Eq a a = true := (pg2Eq_iff a a).2 rfl
theorem eq2_of {a b : Pg2} (ha : a.good) (hb : b.good) (h : a.pt = b.pt) : eqG2 a b = true := by rw [eqG2_eq]; exact (pg2Eq_pt ha.1 hb.1).2 h
theorem pt2_none {a : Pg2} (ha : a.good) : a.inf = true ↔ a.pt = .inf := by
  cases hi : a.inf with
  | true => rw [pt2_inf hi]; simp
  | false => rw [pt2_aff hi]; simp
theorem jc_zero2 {X Y Z : V2} (h : Jc X Y Z .inf) : Z = 0 := h
theorem inf_mul_none2 : infG2.pt.mul qN = .inf := by rw [pt2_infG]; exact mul_inf_pt _
theorem inG2_def (f0 : Pg2 → Bool) (f1 : Fp2 → Bool) (f2 : Fp6 → List UInt64 → Fp6) (f3 : Pg2 → Fp6) (f4 : Fr) (a : Pg2) : inG2_G f0 f1 f2 f3 f4 a = (f0 a && f1 (f2 (f3 a) f4.list).c2) := by
  unfold inG2_G
  cases f0 a <;> rfl
theorem rel2_none {s : Fp6} {p : Pt V2} (h : rel2 s p) : zeroG2 s.c2 = true ↔ p = .inf := by
  rw [m2_zero h.1.2.2]
  constructor
  · exact h.2.inf_of
  · intro e
    subst e
    exact jc_zero2 h.2
theorem in2_iff (a : Pg2) : inG2 a = true ↔ a.good ∧ a.pt.mul qN = .inf := by
  have key : a.good → (zeroG2 (timesG2 (liftG2 a) rLimbs.list).c2 = true ↔ a.pt.mul qN = .inf) := fun hg => by
    rw [← rLimbs_val]
    exact rel2_none (times2_pt hg.2 (lift2_rel hg) rLimbs.list)
  unfold inG2
  rw [inG2_def, Bool.and_eq_true, on2_iff]
  exact ⟨fun h => ⟨h.1, (key h.1).1 h.2⟩, fun h => ⟨h.1, (key h.1).2 h.2⟩⟩
theorem in2R_def (f0 : Fp6 → Pg2) (f1 : Fp6 → List UInt64 → Bool → Fp6) (f2 : Pg2 → Fp6) (f3 : Fr) (a : Pg2) : in2R_G f0 f1 f2 f3 a = (f0 (f1 (f2 a) f3.list false)).inf := rfl
theorem in2R_iff {a : Pg2} (ha : a.good) : in2R a = true ↔ a.pt.mul qN = .inf := by
  unfold in2R
  rw [in2R_def]
  have h := to2_rel (mul_on ha.2 _) (times_rel2 ha.2 (of2_rel ha) rLimbs.list)
  rw [pt2_none h.1, h.2, rLimbs_val]
theorem in2R_eq {a : Pg2} (ha : a.good) : in2R a = inG2 a := Bool.eq_iff_iff.2 (by rw [in2R_iff ha, in2_iff]; exact ⟨fun h => ⟨ha, h⟩, fun h => h.2⟩)
/-- So many times the generator. -/
theorem gmul2 (k : Fr) : (mulG2 oneG2 k).good ∧ (mulG2 oneG2 k).pt = oneG2.pt.mul k.nat := mul2_pt gen2_good k
theorem gmul2_in (n : Nat) : (oneG2.pt.mul n).mul qN = .inf := by rw [← mul_mul_pt gen2_good.2, Nat.mul_comm, mul_mul_pt gen2_good.2, gen2_order, mul_inf_pt]
theorem gmul2_mod (n : Nat) : oneG2.pt.mul (n % qN) = oneG2.pt.mul n := mul_mod_pt gen2_good.2 gen2_order n

/-! ## begun -/
theorem begun9_L {f0 f1 : Pg2} {f2 : Pg2 → Bool} {f3 : Pg2 → Pg2 → Pg2} {f4 : Pg2 → Pg2} {f5 : Pg2 → Fr → Pg2} {f6 : Pg2 → Pg2 → Bool} {f7 : Pg2 → Bool} (h1 : pg2Eq f0 f1 = true) (h2 : f2 f0 = true) (h3 : pg2Eq (f3 f0 (f4 f0)) infG2 = true) (h4 : pg2Eq (f5 f0 ⟨2, 0, 0, 0⟩) (f3 f0 f0) = true) (h5 : f6 f0 f0 = true) (h6 : f7 f0 = true) : begun9_G f0 f1 f2 f3 f4 f5 f6 f7 = true := by
  unfold begun9_G
  rw [h1, h2, h3, show (⟨UInt64.ofNat 2, UInt64.ofNat 0, UInt64.ofNat 0, UInt64.ofNat 0⟩ : Fr) = ⟨2, 0, 0, 0⟩ from rfl, h4, h5]
  exact h6
theorem opp2 {a : Pg2} (ha : a.good) : (addG2 a (negG2 a)).good ∧ (addG2 a (negG2 a)).pt = .inf := by
  obtain ⟨n1, n2⟩ := neg2_pt ha
  obtain ⟨h1, h2⟩ := add2_pt ha n1
  exact ⟨h1, by rw [h2, n2, add_comm_pt ha.2 (neg_on ha.2), neg_add_pt ha.2]⟩
theorem begun9_true : begun9 = true := by
  have hg := gen2_good
  obtain ⟨o1, o2⟩ := opp2 hg
  obtain ⟨k1, k2⟩ := gmul2 ⟨2, 0, 0, 0⟩
  obtain ⟨a1, a2⟩ := add2_pt hg hg
  unfold begun9
  refine begun9_L ?_ ?_ ?_ ?_ ?_ ?_
  · rw [gen2_eq]; exact pg2Eq_refl _
  · exact (on2_iff _).2 hg
  · exact (pg2Eq_pt o1.1 good_inf2.1).2 o2
  · exact (pg2Eq_pt k1.1 a1.1).2 (by rw [k2, a2, two_nat, mul_succ_pt, mul_one_pt])
  · exact eq2_of hg hg rfl
  · exact (in2_iff _).2 ⟨hg, gen2_order⟩
/-! ## Out -/
theorem out9_G_good {f0 : UInt64 → Fp} {f1 : Fp2 → Fp2 × Bool} {f2 f3 : Fp2 → Fp2 → Fp2} {Q : Pg2 → Prop} (h : ∀ x y, (f1 (f2 (f3 (f3 ⟨f0 x, f0 y⟩ ⟨f0 x, f0 y⟩) ⟨f0 x, f0 y⟩) bFp2)).2 = true → Q ⟨⟨f0 x, f0 y⟩, (f1 (f2 (f3 (f3 ⟨f0 x, f0 y⟩ ⟨f0 x, f0 y⟩) ⟨f0 x, f0 y⟩) bFp2)).1, false⟩) (n : UInt64) : (out9_G f0 f1 f2 f3 n).2 = true → Q (out9_G f0 f1 f2 f3 n).1 := by
  unfold out9_G
  repeat (split; (rename_i hq; exact fun _ => h _ _ hq))
  intro e
  cases e
theorem out9_good {n : UInt64} (h : (out9 n).2 = true) : (out9 n).1.good := by
  unfold out9 at h ⊢
  refine out9_G_good (Q := Pg2.good) (fun x y hx => ?_) n h
  have h4 : (⟨ofF x, ofF y⟩ : Fp2).ok := Fp2.mk_ok (ofF_ok x) (ofF_ok y)
  generalize (⟨ofF x, ofF y⟩ : Fp2) = z at *
  have h5 := bFp2_v.1
  rw [mul2R_eq h4 h4, mul2R_eq (mul_ok2 h4 h4) h4, add2R_eq] at hx ⊢
  have m2 := mul_ok2 h4 h4
  have m3 := mul_ok2 m2 h4
  have hr := add_ok2 m3 h5
  rcases sqrt_rootR hr with ⟨_, _, r2, r3, _⟩ | ⟨_, r⟩
  · rw [v_add2 m3 h5, v_mul2 m2 h4, v_mul2 h4 h4, bFp2_v.2] at r3
    exact (good2_mk h4 r2 rfl rfl r3).1
  · rw [r] at hx
    cases hx

/-! ## point -/
theorem point9_true {f0 : UInt64 → Pg2 × Bool} {f1 : Pg2 → Fr → Pg2} {f2 : Pg2} {k : Fr} {n : UInt64} (h : (f0 n).2 = true) : point9_G f0 f1 f2 k n true = (f0 n).1 := by
  unfold point9_G
  rw [h]
theorem point9_false {f0 : UInt64 → Pg2 × Bool} {f1 : Pg2 → Fr → Pg2} {f2 : Pg2} {k : Fr} {n : UInt64} {out : Bool} (h : out = false ∨ (f0 n).2 = false) : point9_G f0 f1 f2 k n out = f1 f2 k := by
  unfold point9_G
  rcases h with h | h
  · rw [h]
  · rw [h]
    cases out <;> rfl
theorem gtimes2 (k : Fr) : times2R gen2R k = mulG2 oneG2 k := by rw [gen2_eq]; exact times2R_eq gen2_good k
theorem point9_good (k : Fr) (n : UInt64) (out : Bool) : (point9 k n out).good := by
  unfold point9
  cases out with
  | false => rw [point9_false (.inl rfl), gtimes2]; exact (gmul2 k).1
  | true =>
    cases h : (out9 n).2 with
    | false => rw [point9_false (.inr h), gtimes2]; exact (gmul2 k).1
    | true => rw [point9_true h]; exact out9_good h

/-! ## G2All -/
theorem g2All_L {f0 : Bool} {f1 : Fr → Bool} {f2 : Fr → UInt64 → Bool → Pg2} {f3 f4 : Pg2 → Pg2 → Pg2} {f5 f6 : Pg2 → Pg2} {f7 f8 : Pg2 → Fr → Pg2} {f9 : Pg2 → Pg2 → Bool} {f10 : Pg2 → Bool} {a b : Fr} {n : UInt64} {out same : Bool} {k : Fr} (h0 : f0 = true)
    (h : ∀ p q, (p = f2 a n out) → (q = f2 a n out ∨ q = f2 b (n / 7) false) → pg2Eq (f3 p q) (f4 p q) = true ∧ pg2Eq (f5 p) (f6 p) = true ∧ pg2Eq (f7 p k) (f8 p k) = true ∧ (f9 p q == pg2Eq p q) = true ∧ f9 p p = true ∧ f10 p = true) :
    g2All_G f0 f1 f2 f3 f4 f5 f6 f7 f8 f9 f10 a b n out same k = true := by
  unfold g2All_G
  subst h0
  cases f1 a with
  | false => rfl
  | true => cases f1 b with
    | false => rfl
    | true => cases f1 k with
      | false => rfl
      | true => cases same with
        | true =>
          obtain ⟨e1, e2, e3, e4, e5, e6⟩ := h _ _ rfl (.inl rfl)
          rw [e1, e2, e3, e4, e5]
          exact e6
        | false =>
          obtain ⟨e1, e2, e3, e4, e5, e6⟩ := h _ _ rfl (.inr rfl)
          rw [show UInt64.ofNat 7 = 7 from rfl, e1, e2, e3, e4, e5]
          exact e6
theorem g2All_law (a b : Fr) (n : UInt64) (out same : Bool) (k : Fr) : g2All a b n out same k = true := by
  unfold g2All
  refine g2All_L begun9_true fun p q hp hq => ?_
  have gp : p.good := by rw [hp]; exact point9_good _ _ _
  have gq : q.good := by
    rcases hq with hq | hq
    · rw [hq]; exact point9_good _ _ _
    · rw [hq]; exact point9_good _ _ _
  rw [plus2R_eq gp gq, minus2R_eq, times2R_eq gp, eqG2_eq, eqG2_eq]
  exact ⟨pg2Eq_refl _, pg2Eq_refl _, pg2Eq_refl _, beq_self_eq_true _, pg2Eq_refl _, (on2_iff _).2 gp⟩

/-! ## G2Group -/
theorem g2Group_L {f0 : Bool} {f1 : Fr → Bool} {f2 : UInt64 → Pg2 × Bool} {f3 : Pg2 → Fr → Pg2} {f4 : Pg2} {f5 : Pg2 → Bool} {f6 : Pg2 → Pg2 → Pg2} {f7 : Pg2 → Pg2 → Bool} {f8 : Pg2 → Pg2} {f9 : Pg2 → Bool} {f10 f11 : Fr → Fr → Fr} {a b : Fr} {n : UInt64} {out : Bool} (h0 : f0 = true)
    (h : f1 a = true → f1 b = true → ∀ p : Pg2, f5 p = true → f7 (f6 (f6 p (f3 f4 b)) (f6 (f3 f4 b) (f3 f4 b))) (f6 p (f6 (f3 f4 b) (f6 (f3 f4 b) (f3 f4 b)))) = true ∧ f7 (f6 p (f3 f4 b)) (f6 (f3 f4 b) p) = true ∧ f7 (f6 p infG2) p = true ∧ f7 (f6 p (f8 p)) infG2 = true ∧ f5 (f6 p (f3 f4 b)) = true ∧ f9 (f3 f4 b) = true ∧
      (p = f3 f4 a → f7 (f6 p (f3 f4 b)) (f3 f4 (f10 a b)) = true ∧ f7 (f3 p b) (f3 f4 (f11 a b)) = true ∧ f9 p = true)) :
    g2Group_G f0 f1 f2 f3 f4 f5 f6 f7 f8 f9 f10 f11 a b n out = true := by
  unfold g2Group_G
  subst h0
  cases ha : f1 a with
  | false => rfl
  | true => cases hb : f1 b with
    | false => rfl
    | true => cases out with
      | false => cases h5 : f5 (f3 f4 a) with
        | false => rfl
        | true =>
          obtain ⟨e1, e2, e3, e4, _, _, e6⟩ := h ha hb _ h5
          obtain ⟨k1, k2, k3⟩ := e6 rfl
          rw [e1, e2, e3, e4, k1, k2]
          exact k3
      | true => cases h5 : f5 (f2 n).1 with
        | false => rfl
        | true =>
          obtain ⟨e1, e2, e3, e4, k1, k2, _⟩ := h ha hb _ h5
          rw [e1, e2, e3, e4, k1]
          exact k2
theorem g2Group_law (a b : Fr) (n : UInt64) (out : Bool) : g2Group a b n out = true := by
  unfold g2Group
  refine g2Group_L begun9_true fun ha hb p hp => ?_
  rw [mayRF_nat, decide_eq_true_eq] at ha hb
  have gp := (on2_iff p).1 hp
  obtain ⟨gq, q2⟩ := gmul2 b
  generalize hq : mulG2 oneG2 b = q at *
  obtain ⟨gr, r2⟩ := add2_pt gq gq
  obtain ⟨s1, s2⟩ := add2_pt gp gq
  obtain ⟨t1, t2⟩ := add2_pt s1 gr
  obtain ⟨u1, u2⟩ := add2_pt gq gr
  obtain ⟨w1, w2⟩ := add2_pt gp u1
  obtain ⟨x1, x2⟩ := add2_pt gq gp
  obtain ⟨y1, y2⟩ := add2_pt gp good_inf2
  obtain ⟨z1, z2⟩ := opp2 gp
  refine ⟨eq2_of t1 w1 ?_, eq2_of s1 x1 ?_, eq2_of y1 gp ?_, eq2_of z1 good_inf2 z2, (on2_iff _).2 s1, (in2_iff _).2 ⟨gq, by rw [q2]; exact gmul2_in _⟩, fun e => ?_⟩
  · rw [t2, s2, w2, u2, r2]
    exact add_assoc_pt gp.2 gq.2 (add_on gq.2 gq.2)
  · rw [s2, x2]
    exact add_comm_pt gp.2 gq.2
  · rw [y2, pt2_infG, add_inf]
  · obtain ⟨ga, a2⟩ := gmul2 a
    obtain ⟨v1, v2⟩ := gmul2 (addRF a b)
    obtain ⟨c1, c2⟩ := gmul2 (mulRF a b)
    obtain ⟨d1, d2⟩ := mul2_pt gp b
    have ep : p.pt = oneG2.pt.mul a.nat := by rw [e]; exact a2
    rw [addRF_nat ha hb, gmul2_mod (a.nat + b.nat), mul_add_pt gen2_good.2] at v2
    rw [mulRF_nat hb, gmul2_mod (a.nat * b.nat), mul_mul_pt gen2_good.2] at c2
    rw [ep] at s2 d2
    rw [q2] at s2
    exact ⟨eq2_of s1 v1 (s2.trans v2.symm), eq2_of d1 c1 (d2.trans c2.symm), (in2_iff _).2 ⟨gp, by rw [ep]; exact gmul2_in _⟩⟩

/-! ## G2Out -/
theorem g2Out_L {f0 : Bool} {f1 : UInt64 → Pg2 × Bool} {f2 : Fr → Bool} {f3 : Pg2 → Pg2 → Pg2} {f4 : Pg2 → Fr → Pg2} {f5 : Pg2} {f6 f7 : Pg2 → Bool} {f8 : Pg2 → Fr → Pg2} {n : UInt64} {k : Fr} {small : UInt8} (h0 : f0 = true)
    (h : (f1 n).2 = true → (f6 (f1 n).1 == f7 (f1 n).1) = true ∧ (f6 (f3 (f1 n).1 (f4 f5 k)) == f7 (f3 (f1 n).1 (f4 f5 k))) = true ∧ f6 infG2 = true ∧ ∀ j, pg2Eq (f8 (f1 n).1 j) (f4 (f1 n).1 j) = true) :
    g2Out_G f0 f1 f2 f3 f4 f5 f6 f7 f8 n k small = true := by
  unfold g2Out_G
  subst h0
  cases h1 : (f1 n).2 with
  | false => rfl
  | true => cases f2 k with
    | false => rfl
    | true =>
      obtain ⟨e1, e2, e3, e4⟩ := h h1
      rw [e1, e2, e3]
      exact e4 _
theorem g2Out_law (n : UInt64) (k : Fr) (small : UInt8) : g2Out n k small = true := by
  unfold g2Out
  refine g2Out_L begun9_true fun h => ?_
  have gp := out9_good h
  have gq := (plus2R_pt gp (show (times2R gen2R k).good by rw [gtimes2]; exact (gmul2 k).1)).1
  refine ⟨?_, ?_, (in2_iff _).2 ⟨good_inf2, inf_mul_none2⟩, fun j => ?_⟩
  · rw [in2R_eq gp]; exact beq_self_eq_true _
  · rw [in2R_eq gq]; exact beq_self_eq_true _
  · rw [times2R_eq gp]; exact pg2Eq_refl _

end Go.Proofs.Ytchlamfdofpolaa
