/- The document's points by value. -/
import Derived.Test.YtchlamfdofpolaaSb
import Derived.Test.YtchlamfdofpolaaQe
import Derived.Test.YtchlamfdofpolaaQf
import Derived.Test.YtchlamfdofpolaaQg
import Derived.Test.YtchlamfdofpolaaMD
set_option linter.unusedSimpArgs false
set_option linter.unusedVariables false
namespace Go.Proofs.Ytchlamfdofpolaa
open Go.RowKit

/-- The document's sum, over whatever its numbers are. -/
theorem add5_G {K : Type} [Fld K] [Crv K] {f0 : Fp2 → Fp2 → Bool → Fp2} {f1 f2 : Fp2 → Fp2 → Fp2} {f3 : Fp2 → Bool → Fp2} {b : K} {small : Bool} (ok : Fp2 → Prop) (v : Fp2 → K)
    (hA : ∀ {x y}, ok x → ok y → ok (f1 x y) ∧ v (f1 x y) = v x + v y) (hS : ∀ {x y}, ok x → ok y → ok (f2 x y) ∧ v (f2 x y) = v x - v y) (hM : ∀ {x y}, ok x → ok y → ok (f0 x y small) ∧ v (f0 x y small) = v x * v y) (hB : ∀ {x}, ok x → ok (f3 x small) ∧ v (f3 x small) = 3 * b * v x)
    {s t : Fp6} (hs : ok s.c0 ∧ ok s.c1 ∧ ok s.c2) (ht : ok t.c0 ∧ ok t.c1 ∧ ok t.c2) :
    (ok (addS5_G f0 f1 f2 f3 s t small).c0 ∧ ok (addS5_G f0 f1 f2 f3 s t small).c1 ∧ ok (addS5_G f0 f1 f2 f3 s t small).c2) ∧
    v (addS5_G f0 f1 f2 f3 s t small).c0 = rx b (v s.c0) (v s.c1) (v s.c2) (v t.c0) (v t.c1) (v t.c2) ∧ v (addS5_G f0 f1 f2 f3 s t small).c1 = ry b (v s.c0) (v s.c1) (v s.c2) (v t.c0) (v t.c1) (v t.c2) ∧ v (addS5_G f0 f1 f2 f3 s t small).c2 = rz b (v s.c0) (v s.c1) (v s.c2) (v t.c0) (v t.c1) (v t.c2) := by
  obtain ⟨s0, s1, s2⟩ := hs
  obtain ⟨t0, t1, t2⟩ := ht
  have a0 := hM s0 t0
  have a1 := hM s1 t1
  have a2 := hM s2 t2
  have b3 := hM (hA s0 s1).1 (hA t0 t1).1
  have b4 := hM (hA s1 s2).1 (hA t1 t2).1
  have b5 := hM (hA s0 s2).1 (hA t0 t2).1
  have c3 := hS (hS b3.1 a0.1).1 a1.1
  have c4 := hS (hS b4.1 a1.1).1 a2.1
  have c5 := hS (hS b5.1 a0.1).1 a2.1
  have d0 := hA (hA a0.1 a0.1).1 a0.1
  have d2 := hB a2.1
  have dz := hA a1.1 d2.1
  have d1 := hS a1.1 d2.1
  have dy := hB c5.1
  have x1 := hM c3.1 d1.1
  have x2 := hM c4.1 dy.1
  have y1 := hM d1.1 dz.1
  have y2 := hM dy.1 d0.1
  have z1 := hM dz.1 c4.1
  have z2 := hM d0.1 c3.1
  have X := hS x1.1 x2.1
  have Y := hA y1.1 y2.1
  have Z := hA z1.1 z2.1
  have e3 := c3.2
  rw [(hS b3.1 a0.1).2, b3.2, a0.2, a1.2, (hA s0 s1).2, (hA t0 t1).2] at e3
  have e4 := c4.2
  rw [(hS b4.1 a1.1).2, b4.2, a1.2, a2.2, (hA s1 s2).2, (hA t1 t2).2] at e4
  have e5 := c5.2
  rw [(hS b5.1 a0.1).2, b5.2, a0.2, a2.2, (hA s0 s2).2, (hA t0 t2).2] at e5
  have eX := X.2
  rw [x1.2, x2.2, e3, e4, d1.2, dy.2, e5, d2.2, a1.2, a2.2] at eX
  have eY := Y.2
  rw [y1.2, y2.2, d1.2, dz.2, dy.2, e5, d0.2, (hA a0.1 a0.1).2, d2.2, a0.2, a1.2, a2.2] at eY
  have eZ := Z.2
  rw [z1.2, z2.2, dz.2, e4, d0.2, (hA a0.1 a0.1).2, d2.2, e3, a0.2, a1.2, a2.2] at eZ
  refine ⟨⟨X.1, Y.1, Z.1⟩, eX.trans ?_, eY.trans ?_, eZ.trans ?_⟩
  · unfold rx; clear eX eY eZ e3 e4 e5; grind
  · unfold ry; clear eX eY eZ e3 e4 e5; grind
  · unfold rz; clear eX eY eZ e3 e4 e5; grind

/-! ## points of g1: their numbers are pairs of which the second one is 0 -/
def lowOk (x : Fp2) : Prop := x.c0.ok ∧ x.c1 = zeroFp
def lowV (x : Fp2) : V1 := x.c0.v
theorem zero_zero {f : Fp → Fp → Fp} (h : f zeroFp zeroFp = zeroFp) {x y : Fp2} (hx : x.c1 = zeroFp) (hy : y.c1 = zeroFp) : f x.c1 y.c1 = zeroFp := by rw [hx, hy, h]
theorem addF_zz : addF zeroFp zeroFp = zeroFp := Fp.v_inj (add_ok' zero_ok' zero_ok') zero_ok' (by rw [v_add zero_ok' zero_ok', v_zero]; exact CR.add_zero _)
theorem subF_zz : subF zeroFp zeroFp = zeroFp := Fp.v_inj (sub_ok' zero_ok' zero_ok') zero_ok' (by rw [v_sub zero_ok' zero_ok', v_zero]; exact sub_of_eq rfl)
theorem lowMk2 {x y : Fp} {z : V1} (h : x.ok) (hy : y = zeroFp) (hv : x.v = z) : lowOk ⟨x, y⟩ ∧ lowV ⟨x, y⟩ = z := ⟨⟨h, hy⟩, hv⟩
theorem low_add {x y : Fp2} (hx : lowOk x) (hy : lowOk y) : lowOk (add2R x y) ∧ lowV (add2R x y) = lowV x + lowV y := by
  rw [add2R_eq, addF2_eq]
  exact lowMk2 (add_ok' hx.1 hy.1) (zero_zero addF_zz hx.2 hy.2) (v_add hx.1 hy.1)
theorem low_sub {x y : Fp2} (hx : lowOk x) (hy : lowOk y) : lowOk (sub2R x y) ∧ lowV (sub2R x y) = lowV x - lowV y := by
  rw [sub2R_eq, subF2_eq]
  exact lowMk2 (sub_ok' hx.1 hy.1) (zero_zero subF_zz hx.2 hy.2) (v_sub hx.1 hy.1)
theorem mulS_true (f0 : Fp → Fp → Fp) (f1 : Fp2 → Fp2 → Fp2) (x y : Fp2) : mulS_G f0 f1 x y true = ⟨f0 x.c0 y.c0, zeroFp⟩ := rfl
theorem mulS_false (f0 : Fp → Fp → Fp) (f1 : Fp2 → Fp2 → Fp2) (x y : Fp2) : mulS_G f0 f1 x y false = f1 x y := rfl
theorem lowMk {x : Fp} (h : x.ok) : lowOk ⟨x, zeroFp⟩ ∧ lowV ⟨x, zeroFp⟩ = x.v := ⟨⟨h, rfl⟩, rfl⟩
theorem low_mul {x y : Fp2} (hx : lowOk x) (hy : lowOk y) : lowOk (mulS x y true) ∧ lowV (mulS x y true) = lowV x * lowV y := by
  unfold mulS
  rw [mulS_true, mulPF_eq hx.1 hy.1, ← show (mulF x.c0 y.c0).v = lowV x * lowV y from v_mul hx.1 hy.1]
  exact lowMk (mul_ok' hx.1)
theorem b3_true (f0 f1 : Fp2 → Fp2 → Fp2) (f2 x : Fp2) : b3R_G f0 f1 f2 x true = f0 (f0 (f0 (f0 x x) (f0 x x)) (f0 (f0 x x) (f0 x x))) (f0 (f0 x x) (f0 x x)) := rfl
theorem b3_false (f0 f1 : Fp2 → Fp2 → Fp2) (f2 x : Fp2) : b3R_G f0 f1 f2 x false = f1 (f0 (f0 (f0 (f0 x x) (f0 x x)) (f0 (f0 x x) (f0 x x))) (f0 (f0 x x) (f0 x x))) f2 := rfl
theorem twelve_v {K : Type} [CR K] (x : K) : x + x + (x + x) + (x + x + (x + x)) + (x + x + (x + x)) = 3 * 4 * x := by grind
theorem low_b3 {x : Fp2} (hx : lowOk x) : lowOk (b3R x true) ∧ lowV (b3R x true) = 3 * Crv.b * lowV x := by
  unfold b3R
  rw [b3_true]
  have h2 := low_add hx hx
  have h4 := low_add h2.1 h2.1
  have h8 := low_add h4.1 h4.1
  have h12 := low_add h8.1 h4.1
  refine ⟨h12.1, ?_⟩
  rw [h12.2, h8.2, h4.2, h2.2]
  exact twelve_v _
theorem addS5_def (s t : Fp6) (b : Bool) : addS5 s t b = addS5_G mulS add2R sub2R b3R s t b := rfl
/-- Three numbers of a point of g1. -/
def low3 (s : Fp6) : Prop := lowOk s.c0 ∧ lowOk s.c1 ∧ lowOk s.c2
def relR1 (s : Fp6) (p : Pt V1) : Prop := low3 s ∧ Pj (lowV s.c0) (lowV s.c1) (lowV s.c2) p
theorem add5_rel1 {s t : Fp6} {p q : Pt V1} (hp : p.on) (hq : q.on) (hs : relR1 s p) (ht : relR1 t q) : relR1 (addS5 s t true) (p.add q) := by
  unfold addS5
  obtain ⟨h1, h2, h3, h4⟩ := add5_G (b := (Crv.b : V1)) lowOk lowV low_add low_sub low_mul low_b3 hs.1 ht.1
  refine ⟨h1, ?_⟩
  rw [h2, h3, h4]
  exact sum_all hp hq hs.2 ht.2
theorem relR1_mk {a b c : Fp2} {p : Pt V1} (ha : lowOk a) (hb : lowOk b) (hc : lowOk c) (h : Pj (lowV a) (lowV b) (lowV c) p) : relR1 ⟨a, b, c⟩ p := ⟨⟨ha, hb, hc⟩, h⟩
theorem none5_eq : none5 = ⟨zeroFp2, oneFp2, zeroFp2⟩ := by
  unfold none5
  rw [one2R_eq]
  rfl
theorem zero_low : lowOk zeroFp2 ∧ lowV zeroFp2 = 0 := ⟨⟨zero_ok', rfl⟩, v_zero⟩
theorem one_low : lowOk oneFp2 ∧ lowV oneFp2 = 1 := ⟨⟨one_ok', rfl⟩, v_one⟩
theorem none_rel1 : relR1 none5 .inf := by
  rw [none5_eq]
  refine relR1_mk zero_low.1 one_low.1 zero_low.1 ?_
  rw [zero_low.2, one_low.2]
  exact ⟨rfl, rfl, one_ne'⟩
theorem of1_inf {f0 : Fp6} {f1 : Fp2} {a : Pg1} (h : a.inf = true) : of1R_G f0 f1 a = f0 := by unfold of1R_G; rw [h]
theorem of1_aff {f0 : Fp6} {f1 : Fp2} {a : Pg1} (h : a.inf = false) : of1R_G f0 f1 a = ⟨⟨a.x, zeroFp⟩, ⟨a.y, zeroFp⟩, f1⟩ := by unfold of1R_G; rw [h]
theorem of1_rel {a : Pg1} (ha : a.good) : relR1 (of1R a) a.pt := by
  unfold of1R
  cases hi : a.inf with
  | true => rw [of1_inf hi, pt1_inf hi]; exact none_rel1
  | false =>
    obtain ⟨hx, hy⟩ := ok_aff1 ha.1 hi
    rw [of1_aff hi, pt1_aff hi, one2R_eq]
    refine relR1_mk (lowMk hx).1 (lowMk hy).1 one_low.1 ?_
    rw [(lowMk hx).2, (lowMk hy).2, one_low.2]
    exact ⟨one_ne', (CR.mul_one _).symm, (CR.mul_one _).symm⟩
theorem to1_no {f0 : Fp → Fp × Int} {f1 : Fp → Fp → Fp} {s : Fp6} (h : (f0 s.c2.c0).2 = 7) : to1R_G f0 f1 s = infG1 := by
  unfold to1R_G
  rw [h]
  rfl
theorem to1_yes {f0 : Fp → Fp × Int} {f1 : Fp → Fp → Fp} {s : Fp6} (h : (f0 s.c2.c0).2 = 0) : to1R_G f0 f1 s = ⟨f1 s.c0.c0 (f0 s.c2.c0).1, f1 s.c1.c0 (f0 s.c2.c0).1, false⟩ := by
  unfold to1R_G
  rw [h]
  rfl
theorem pj_div {K : Type} [Fld K] {x z : K} (hz : z ≠ 0) : x * z * Fld.inv z = x := by
  have := mul_inv' hz
  grind
theorem to1_rel {s : Fp6} {p : Pt V1} (hp : p.on) (h : relR1 s p) : (to1R s).good ∧ (to1R s).pt = p := by
  obtain ⟨⟨h0, h1, h2⟩, hj⟩ := h
  obtain ⟨i1, i2⟩ := inv_v h2.1
  have ei := invPF_eq h2.1
  unfold to1R
  cases p with
  | inf =>
    rw [to1_no (by rw [ei]; exact i1 hj.2.1)]
    exact ⟨good_inf1, rfl⟩
  | aff x y =>
    obtain ⟨hz, e1, e2⟩ := hj
    obtain ⟨j1, j2, j3⟩ := i2 hz
    rw [to1_yes (by rw [ei]; exact j1), ei, mulPF_eq h0.1 j2, mulPF_eq h1.1 j2]
    refine good1_mk (mul_ok' h0.1) (mul_ok' h1.1) ?_ ?_ hp
    · rw [v_mul h0.1 j2, j3, show s.c0.c0.v = x * s.c2.c0.v from e1]
      exact pj_div hz
    · rw [v_mul h1.1 j2, j3, show s.c1.c0.v = y * s.c2.c0.v from e2]
      exact pj_div hz
theorem times_rel1 {s : Fp6} {p : Pt V1} (hp : p.on) (h : relR1 s p) (e : List UInt64) : relR1 (timesR s e true) (p.mul (valL e)) :=
  dblG_all relR1 hp (fun hq h => add5_rel1 hq hq h h) (fun hq k => add5_rel1 hq hp k h) e none_rel1

/-! ## points of g2 -/
theorem big_mul {x y : Fp2} (hx : x.ok) (hy : y.ok) : (mulS x y false).ok ∧ (mulS x y false).v = x.v * y.v := by
  unfold mulS
  rw [mulS_false, mul2R_eq hx hy]
  exact ⟨mul_ok2 hx hy, v_mul2 hx hy⟩
theorem big_add {x y : Fp2} (hx : x.ok) (hy : y.ok) : (add2R x y).ok ∧ (add2R x y).v = x.v + y.v := by rw [add2R_eq]; exact ⟨add_ok2 hx hy, v_add2 hx hy⟩
theorem big_sub {x y : Fp2} (hx : x.ok) (hy : y.ok) : (sub2R x y).ok ∧ (sub2R x y).v = x.v - y.v := by rw [sub2R_eq]; exact ⟨sub_ok2 hx hy, v_sub2 hx hy⟩
theorem bb2_xi : bb2 = 4 * xi := Qd.ext'
  (by rw [V2.mul_a, xi_a, xi_b]; show (4 : V1) = 4 * 1 - 0 * 1; grind)
  (by rw [V2.mul_b, xi_a, xi_b]; show (4 : V1) = 4 * 1 + 0 * 1; grind)
theorem b3_xi (x k b : V2) (h : b = 4 * k) : 3 * 4 * x * k = 3 * b * x := by rw [h]; grind
theorem big_b3 {x : Fp2} (hx : x.ok) : (b3R x false).ok ∧ (b3R x false).v = 3 * Crv.b * x.v := by
  unfold b3R
  rw [b3_false]
  have h2 := big_add hx hx
  have h4 := big_add h2.1 h2.1
  have h8 := big_add h4.1 h4.1
  have h12 := big_add h8.1 h4.1
  rw [mul2R_eq h12.1 xi_ok2]
  refine ⟨mul_ok2 h12.1 xi_ok2, ?_⟩
  rw [v_mul2 h12.1 xi_ok2, h12.2, h8.2, h4.2, h2.2, twelve_v, v_xi2]
  exact b3_xi _ _ _ bb2_xi
def big3 (s : Fp6) : Prop := s.c0.ok ∧ s.c1.ok ∧ s.c2.ok
def relR2 (s : Fp6) (p : Pt V2) : Prop := big3 s ∧ Pj s.c0.v s.c1.v s.c2.v p
theorem add5_rel2 {s t : Fp6} {p q : Pt V2} (hp : p.on) (hq : q.on) (hs : relR2 s p) (ht : relR2 t q) : relR2 (addS5 s t false) (p.add q) := by
  unfold addS5
  obtain ⟨h1, h2, h3, h4⟩ := add5_G (b := (Crv.b : V2)) Fp2.ok Fp2.v big_add big_sub big_mul big_b3 hs.1 ht.1
  refine ⟨h1, ?_⟩
  rw [h2, h3, h4]
  exact sum_all hp hq hs.2 ht.2
theorem relR2_mk {a b c : Fp2} {p : Pt V2} (ha : a.ok) (hb : b.ok) (hc : c.ok) (h : Pj a.v b.v c.v p) : relR2 ⟨a, b, c⟩ p := ⟨⟨ha, hb, hc⟩, h⟩
theorem none_rel2 : relR2 none5 .inf := by
  rw [none5_eq]
  refine relR2_mk zero_ok2 one_ok2 zero_ok2 ?_
  rw [v_zero2, v_one2]
  exact ⟨rfl, rfl, one_ne'⟩
theorem of2_inf {f0 : Fp6} {f1 : Fp2} {a : Pg2} (h : a.inf = true) : of2R_G f0 f1 a = f0 := by unfold of2R_G; rw [h]
theorem of2_aff {f0 : Fp6} {f1 : Fp2} {a : Pg2} (h : a.inf = false) : of2R_G f0 f1 a = ⟨a.x, a.y, f1⟩ := by unfold of2R_G; rw [h]
theorem of2_rel {a : Pg2} (ha : a.good) : relR2 (of2R a) a.pt := by
  unfold of2R
  cases hi : a.inf with
  | true => rw [of2_inf hi, pt2_inf hi]; exact none_rel2
  | false =>
    obtain ⟨hx, hy⟩ := ok_aff2 ha.1 hi
    rw [of2_aff hi, pt2_aff hi, one2R_eq]
    refine relR2_mk hx hy one_ok2 ?_
    rw [v_one2]
    exact ⟨one_ne', (CR.mul_one _).symm, (CR.mul_one _).symm⟩
theorem to2_no {f0 : Fp2 → Fp2 × Int} {f1 : Fp2 → Fp2 → Fp2} {s : Fp6} (h : (f0 s.c2).2 = 7) : to2R_G f0 f1 s = infG2 := by
  unfold to2R_G
  rw [h]
  rfl
theorem to2_yes {f0 : Fp2 → Fp2 × Int} {f1 : Fp2 → Fp2 → Fp2} {s : Fp6} (h : (f0 s.c2).2 = 0) : to2R_G f0 f1 s = ⟨f1 s.c0 (f0 s.c2).1, f1 s.c1 (f0 s.c2).1, false⟩ := by
  unfold to2R_G
  rw [h]
  rfl
theorem to2_rel {s : Fp6} {p : Pt V2} (hp : p.on) (h : relR2 s p) : (to2R s).good ∧ (to2R s).pt = p := by
  obtain ⟨⟨h0, h1, h2⟩, hj⟩ := h
  obtain ⟨i1, i2⟩ := inv_v2' h2
  have ei := inv2R_eq h2
  unfold to2R
  cases p with
  | inf =>
    rw [to2_no (by rw [ei]; exact i1 hj.2.1)]
    exact ⟨good_inf2, rfl⟩
  | aff x y =>
    obtain ⟨hz, e1, e2⟩ := hj
    obtain ⟨j1, j2, j3⟩ := i2 hz
    rw [to2_yes (by rw [ei]; exact j1), ei, mul2R_eq h0 j2, mul2R_eq h1 j2]
    refine good2_mk (mul_ok2 h0 j2) (mul_ok2 h1 j2) ?_ ?_ hp
    · rw [v_mul2 h0 j2, j3, e1]
      exact pj_div hz
    · rw [v_mul2 h1 j2, j3, e2]
      exact pj_div hz
theorem times_rel2 {s : Fp6} {p : Pt V2} (hp : p.on) (h : relR2 s p) (e : List UInt64) : relR2 (timesR s e false) (p.mul (valL e)) :=
  dblG_all relR2 hp (fun hq h => add5_rel2 hq hq h h) (fun hq k => add5_rel2 hq hp k h) e none_rel2

/-! ## multiples, and the document's points are the program's -/
theorem list4_val (k : Fr) : valL k.list = k.nat := by
  show valAt [k.l0, k.l1, k.l2, k.l3] 4 = _
  unfold Fr.nat
  simp only [valAt, atF, List.getD_eq_getElem?_getD, List.getElem?_cons_zero, List.getElem?_cons_succ, Option.getD_some, W64]
  omega
theorem times1_pt {s : Sp1} {p : Pt V1} (hp : p.on) (h : rel1 s p) (e : List UInt64) : rel1 (timesG1 s e) (p.mul (valL e)) :=
  dblG_all rel1 hp (fun hq h => twice1_rel hq h) (fun hq k => plus1_rel hq hp k h) e rel1_inf
theorem times2_pt {s : Fp6} {p : Pt V2} (hp : p.on) (h : rel2 s p) (e : List UInt64) : rel2 (timesG2 s e) (p.mul (valL e)) :=
  dblG_all rel2 hp (fun hq h => twice2_rel hq h) (fun hq k => plus2_rel hq hp k h) e rel2_inf
theorem mulG1_def (f0 : Sp1 → Pg1) (f1 : Sp1 → List UInt64 → Sp1) (f2 : Pg1 → Sp1) (a : Pg1) (k : Fr) : mulG1_G f0 f1 f2 a k = f0 (f1 (f2 a) k.list) := rfl
theorem mulG2_def (f0 : Fp6 → Pg2) (f1 : Fp6 → List UInt64 → Fp6) (f2 : Pg2 → Fp6) (a : Pg2) (k : Fr) : mulG2_G f0 f1 f2 a k = f0 (f1 (f2 a) k.list) := rfl
theorem mul1_pt {a : Pg1} (ha : a.good) (k : Fr) : (mulG1 a k).good ∧ (mulG1 a k).pt = a.pt.mul k.nat := by
  unfold mulG1
  rw [mulG1_def, ← list4_val]
  exact lays1_rel (mul_on ha.2 _) (times1_pt ha.2 (lift1_rel ha) _)
theorem mul2_pt {a : Pg2} (ha : a.good) (k : Fr) : (mulG2 a k).good ∧ (mulG2 a k).pt = a.pt.mul k.nat := by
  unfold mulG2
  rw [mulG2_def, ← list4_val]
  exact lays2_rel (mul_on ha.2 _) (times2_pt ha.2 (lift2_rel ha) _)
theorem times1R_def (f0 : Fp6 → Pg1) (f1 : Fp6 → List UInt64 → Bool → Fp6) (f2 : Pg1 → Fp6) (a : Pg1) (k : Fr) : times1R_G f0 f1 f2 a k = f0 (f1 (f2 a) k.list true) := rfl
theorem times2R_def (f0 : Fp6 → Pg2) (f1 : Fp6 → List UInt64 → Bool → Fp6) (f2 : Pg2 → Fp6) (a : Pg2) (k : Fr) : times2R_G f0 f1 f2 a k = f0 (f1 (f2 a) k.list false) := rfl
theorem times1R_pt {a : Pg1} (ha : a.good) (k : Fr) : (times1R a k).good ∧ (times1R a k).pt = a.pt.mul k.nat := by
  unfold times1R
  rw [times1R_def, ← list4_val]
  exact to1_rel (mul_on ha.2 _) (times_rel1 ha.2 (of1_rel ha) _)
theorem times2R_pt {a : Pg2} (ha : a.good) (k : Fr) : (times2R a k).good ∧ (times2R a k).pt = a.pt.mul k.nat := by
  unfold times2R
  rw [times2R_def, ← list4_val]
  exact to2_rel (mul_on ha.2 _) (times_rel2 ha.2 (of2_rel ha) _)
theorem plus1R_def (f0 : Fp6 → Pg1) (f1 : Fp6 → Fp6 → Bool → Fp6) (f2 : Pg1 → Fp6) (a b : Pg1) : plus1R_G f0 f1 f2 a b = f0 (f1 (f2 a) (f2 b) true) := rfl
theorem plus2R_def (f0 : Fp6 → Pg2) (f1 : Fp6 → Fp6 → Bool → Fp6) (f2 : Pg2 → Fp6) (a b : Pg2) : plus2R_G f0 f1 f2 a b = f0 (f1 (f2 a) (f2 b) false) := rfl
theorem plus1R_pt {a b : Pg1} (ha : a.good) (hb : b.good) : (plus1R a b).good ∧ (plus1R a b).pt = a.pt.add b.pt := by
  unfold plus1R
  rw [plus1R_def]
  exact to1_rel (add_on ha.2 hb.2) (add5_rel1 ha.2 hb.2 (of1_rel ha) (of1_rel hb))
theorem plus2R_pt {a b : Pg2} (ha : a.good) (hb : b.good) : (plus2R a b).good ∧ (plus2R a b).pt = a.pt.add b.pt := by
  unfold plus2R
  rw [plus2R_def]
  exact to2_rel (add_on ha.2 hb.2) (add5_rel2 ha.2 hb.2 (of2_rel ha) (of2_rel hb))
theorem plus1R_eq {a b : Pg1} (ha : a.good) (hb : b.good) : plus1R a b = addG1 a b := pt1_inj (plus1R_pt ha hb).1.1 (add1_pt ha hb).1.1 ((plus1R_pt ha hb).2.trans (add1_pt ha hb).2.symm)
theorem plus2R_eq {a b : Pg2} (ha : a.good) (hb : b.good) : plus2R a b = addG2 a b := pt2_inj (plus2R_pt ha hb).1.1 (add2_pt ha hb).1.1 ((plus2R_pt ha hb).2.trans (add2_pt ha hb).2.symm)
theorem times1R_eq {a : Pg1} (ha : a.good) (k : Fr) : times1R a k = mulG1 a k := pt1_inj (times1R_pt ha k).1.1 (mul1_pt ha k).1.1 ((times1R_pt ha k).2.trans (mul1_pt ha k).2.symm)
theorem times2R_eq {a : Pg2} (ha : a.good) (k : Fr) : times2R a k = mulG2 a k := pt2_inj (times2R_pt ha k).1.1 (mul2_pt ha k).1.1 ((times2R_pt ha k).2.trans (mul2_pt ha k).2.symm)
theorem minus1R_inf {f : Fp → Fp} {a : Pg1} (h : a.inf = true) : minus1R_G f a = a := by unfold minus1R_G; rw [h]; rfl
theorem minus1R_aff {f : Fp → Fp} {a : Pg1} (h : a.inf = false) : minus1R_G f a = ⟨a.x, f a.y, false⟩ := by unfold minus1R_G; rw [h]; rfl
theorem minus2R_inf {f : Fp2 → Fp2} {a : Pg2} (h : a.inf = true) : minus2R_G f a = a := by unfold minus2R_G; rw [h]; rfl
theorem minus2R_aff {f : Fp2 → Fp2} {a : Pg2} (h : a.inf = false) : minus2R_G f a = ⟨a.x, f a.y, false⟩ := by unfold minus2R_G; rw [h]; rfl
theorem minus1R_eq (a : Pg1) : minus1R a = negG1 a := by
  unfold minus1R negG1
  cases hi : a.inf with
  | true => rw [minus1R_inf hi, negG1_inf hi]
  | false => rw [minus1R_aff hi, negG1_aff hi, negPF_eq]
theorem minus2R_eq (a : Pg2) : minus2R a = negG2 a := by
  unfold minus2R negG2
  cases hi : a.inf with
  | true => rw [minus2R_inf hi, negG2_inf hi]
  | false => rw [minus2R_aff hi, negG2_aff hi, neg2R_eq]

end Go.Proofs.Ytchlamfdofpolaa
