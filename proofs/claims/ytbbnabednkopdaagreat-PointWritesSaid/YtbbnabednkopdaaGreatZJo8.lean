/- Texts of the proof, joined. -/
import Derived.Test.YtbbnabednkopdaaGreatZJo7
set_option linter.unusedSimpArgs false
set_option linter.unusedVariables false
namespace Go.Proofs.YtbbnabednkopdaaGreat
open Go.RowKit
theorem getD_hd (l : List UInt8) (h : 0 < l.length) (v : UInt8) : (l.set 0 v).getD 0 0 = v := by
  cases l with
  | nil => cases h
  | cons a l => rfl
theorem set_hd (l : List UInt8) : l.set 0 (l.getD 0 0) = l := by
  cases l with
  | nil => rfl
  | cons a l => rfl
theorem set_set_hd (l : List UInt8) (v w : UInt8) : (l.set 0 v).set 0 w = l.set 0 w := by
  cases l with
  | nil => rfl
  | cons a l => rfl
theorem getD_hdB (l : List UInt8) (h : 0 < l.length) (t : UInt8) : (hdB l t).getD 0 0 = l.getD 0 0 + t := getD_hd l h _
theorem hd_hd (l : List UInt8) (h : 0 < l.length) : hdB (hdB l 32) 128 = hdB l 160 := by
  unfold hdB
  rw [getD_hd l h, set_set_hd, UInt8.add_assoc]
  rfl
abbrev hiB (g : Bool) : UInt8 := cond g 160 128
theorem b_or (c : UInt8) : (!decide (c < 32) || (c ||| 128 == c + 128 && (c ||| 128 ||| 32 == c + 160))) = true := u8_all (p := fun c => !decide (c < 32) || (c ||| 128 == c + 128 && (c ||| 128 ||| 32 == c + 160))) (by decide +kernel) c
theorem b_hi (c : UInt8) : (!decide (c < 32) || (((c + 128) &&& UInt8.ofNat 128 == UInt8.ofNat 0) == false && ((c + 160) &&& UInt8.ofNat 128 == UInt8.ofNat 0) == false && ((c + 128) &&& UInt8.ofNat 64 != UInt8.ofNat 0) == false && ((c + 160) &&& UInt8.ofNat 64 != UInt8.ofNat 0) == false && ((c + 128) &&& UInt8.ofNat 32 != UInt8.ofNat 0) == false && ((c + 160) &&& UInt8.ofNat 32 != UInt8.ofNat 0) == true && (c + 128) &&& ~~~(UInt8.ofNat 224) == c && (c + 160) &&& ~~~(UInt8.ofNat 224) == c)) = true := u8_all (p := fun c => !decide (c < 32) || (((c + 128) &&& UInt8.ofNat 128 == UInt8.ofNat 0) == false && ((c + 160) &&& UInt8.ofNat 128 == UInt8.ofNat 0) == false && ((c + 128) &&& UInt8.ofNat 64 != UInt8.ofNat 0) == false && ((c + 160) &&& UInt8.ofNat 64 != UInt8.ofNat 0) == false && ((c + 128) &&& UInt8.ofNat 32 != UInt8.ofNat 0) == false && ((c + 160) &&& UInt8.ofNat 32 != UInt8.ofNat 0) == true && (c + 128) &&& ~~~(UInt8.ofNat 224) == c && (c + 160) &&& ~~~(UInt8.ofNat 224) == c)) (by decide +kernel) c
theorem rput_gen2 {l : List UInt8} {g h : Bool} (e : g = h) (h0 : 0 < l.length) : cond false inf2B (cond g (hdB (hdB l 32) 128) (hdB l 128)) = hdB l (hiB h) := by
  subst e
  rw [hd_hd _ h0]
  cases g <;> rfl
theorem rput_gen1 {l : List UInt8} {g h : Bool} (e : g = h) (h0 : 0 < l.length) : cond false inf1B (cond g (hdB (hdB l 32) 128) (hdB l 128)) = hdB l (hiB h) := by
  subst e
  rw [hd_hd _ h0]
  cases g <;> rfl
theorem mark_hd {l : List UInt8} (h0 : 0 < l.length) (hc : l.getD 0 0 < 32) (g : Bool) : markF l (false, g, ()) = hdB l (hiB g) := by
  have h := b_or (l.getD 0 0)
  rw [decide_eq_true hc, Bool.not_true, Bool.false_or, Bool.and_eq_true] at h
  have h1 := eq_of_beq h.1
  have h2 := eq_of_beq h.2
  cases g with
  | false =>
    show l.set 0 (l.getD 0 0 ||| 128) = _
    rw [h1]
    rfl
  | true =>
    show (l.set 0 (l.getD 0 0 ||| 128)).set 0 ((l.set 0 (l.getD 0 0 ||| 128)).getD 0 0 ||| 32) = _
    rw [getD_hd l h0, set_set_hd, h2]
    rfl
theorem bare_hd {l : List UInt8} {n : Int} (hl : (l.length : Int) = n) (h0 : 0 < l.length) (hc : l.getD 0 0 < 32) (g : Bool) : bareF (hdB l (hiB g)) n = (l, false, g, 0) := by
  have h := b_hi (l.getD 0 0)
  rw [decide_eq_true hc, Bool.not_true, Bool.false_or] at h
  simp only [Bool.and_eq_true] at h
  obtain ⟨⟨⟨⟨⟨⟨⟨a1, a2⟩, a3⟩, a4⟩, a5⟩, a6⟩, a7⟩, a8⟩ := h
  have e1 : bit7 (hdB l (hiB g)) = false := by
    unfold bit7
    rw [getD_hdB l h0]
    cases g
    · exact eq_of_beq a1
    · exact eq_of_beq a2
  have e2 : bit6 (hdB l (hiB g)) = false := by
    unfold bit6
    rw [getD_hdB l h0]
    cases g
    · exact eq_of_beq a3
    · exact eq_of_beq a4
  have e3 : bit5 (hdB l (hiB g)) = g := by
    unfold bit5
    rw [getD_hdB l h0]
    cases g
    · exact eq_of_beq a5
    · exact eq_of_beq a6
  have e4 : bareL (hdB l (hiB g)) = l := by
    unfold bareL
    rw [getD_hdB l h0]
    unfold hdB
    rw [set_set_hd]
    cases g
    · exact (congrArg (l.set 0) (eq_of_beq a7)).trans (set_hd l)
    · exact (congrArg (l.set 0) (eq_of_beq a8)).trans (set_hd l)
  unfold bareF
  rw [e1, e2, e3, e4, hdB_len, decide_eq_false (show ¬ (l.length : Int) < n by omega), decide_eq_false (show ¬ (l.length : Int) > n by omega)]
  rfl
theorem pN_top : pN < 32 * 256 ^ 47 := by decide +kernel
theorem top_low {x : Fp} (hx : x.ok) : (fputF x).getD 0 0 < 32 := by
  have hl : (cutF x.list).length ≤ 6 := Nat.le_trans (cutF_len x.list) (Nat.le_of_eq (fp_short x))
  have hv : bsum (cutF x.list) 48 = x.nat := by rw [show (48 : Nat) = 8 * 6 from rfl, bsum_val, valAt_out _ hl, valL_cut, valL_list]
  have hh : (fputF x).getD 0 0 = byteAt (cutF x.list) 47 := by
    rw [fput_full]
    exact bAt_full (cutF x.list) (n := 48) (t := 0) (by decide)
  have hs : bsum (cutF x.list) 48 = bsum (cutF x.list) 47 + (byteAt (cutF x.list) 47).toNat * 256 ^ 47 := rfl
  rw [hh]
  show (byteAt (cutF x.list) 47).toNat < 32
  have hx : x.nat < pN := hx
  have hp := pN_top
  generalize (256 : Nat) ^ 47 = q at *
  generalize (byteAt (cutF x.list) 47).toNat = c at *
  rcases Nat.lt_or_ge c 32 with h | h
  · exact h
  · have := Nat.mul_le_mul_right q h
    omega
theorem fput_pos (x : Fp) : 0 < (fputF x).length := by rw [fput_len']; decide
theorem two_top {x : Fp2} (hx : x.ok) : (fputF x.c1 ++ fputF x.c0).getD 0 0 < 32 := by
  have h := top_low hx.2
  have h0 := fput_pos x.c1
  generalize fputF x.c1 = l at *
  cases l with
  | nil => cases h0
  | cons a l => exact h
theorem two_len (x : Fp2) : (fputF x.c1 ++ fputF x.c0).length = 96 := by rw [List.length_append, fput_len', fput_len']
theorem two_pos (x : Fp2) : 0 < (fputF x.c1 ++ fputF x.c0).length := by rw [two_len]; decide
theorem twoG_put {x : Fp2} (hx : x.ok) : twoG ftakeF (fputF x.c1 ++ fputF x.c0) = (x, 0) := by
  unfold twoG
  rw [List.take_left' (fput_len' x.c1), List.drop_left' (fput_len' x.c1), take_put hx.1, take_put hx.2]
  rfl
abbrev put1B (x : Fp) : List UInt8 := fputF x
abbrev put2B (x : Fp2) : List UInt8 := fputF x.c1 ++ fputF x.c0
theorem put1B_ok {x : Fp} (hx : x.ok) : ((put1B x).length : Int) = 48 ∧ 0 < (put1B x).length ∧ (put1B x).getD 0 0 < 32 ∧ ftakeF (put1B x) = (x, 0) := ⟨by rw [show (put1B x).length = 48 from fput_len' x]; rfl, fput_pos x, top_low hx, take_put hx⟩
theorem put2B_ok {x : Fp2} (hx : x.ok) : ((put2B x).length : Int) = 96 ∧ 0 < (put2B x).length ∧ (put2B x).getD 0 0 < 32 ∧ twoG ftakeF (put2B x) = (x, 0) := ⟨by rw [show (put2B x).length = 96 from two_len x]; rfl, two_pos x, two_top hx, twoG_put hx⟩
theorem great1_eq (a : Fp) : greatPF a = greatF a := greatPF_eq a
theorem great2_eq (a : Fp2) : great2R a = greatF2 a := great2R_eq a
theorem fr1 {a : Fp} (ha : a.ok) (h : a.v ≠ 0) : greatF (negF a) = !greatF a := great_neg ha h
theorem fr2 {a : Fp2} (ha : a.ok) (h : a.v ≠ 0) : greatF2 (negF2 a) = !greatF2 a := by rw [greatF2_eq, greatF2_eq]; exact great_neg2 ha h
theorem isz1 {a : Fp} (ha : a.ok) (h : a.v ≠ 0) : fpEq a zeroFp = false := (fpEq_nonzero ha).2 h
theorem isz2 {a : Fp2} (ha : a.ok) (h : a.v ≠ 0) : fp2Eq a zeroFp2 = false := by
  cases h2 : fp2Eq a zeroFp2 with
  | false => rfl
  | true => exact absurd ((v_eq_zero2 ha).2 ((fp2Eq_iff _ _).1 h2)) h
theorem rt1 {a : Fp} (ha : a.ok) (h : ∃ y : V1, y * y = a.v) : (sqrtF a).2 = true ∧ (sqrtF a).1.ok ∧ (sqrtF a).1.v * (sqrtF a).1.v = a.v ∧ greatF (sqrtF a).1 = false := (sqrt_law ha).1 h
theorem rt2 {a : Fp2} (ha : a.ok) (h : ∃ y : V2, y * y = a.v) : (sqrtF2 a).2 = true ∧ (sqrtF2 a).1.ok ∧ (sqrtF2 a).1.v * (sqrtF2 a).1.v = a.v ∧ greatF2 (sqrtF2 a).1 = false := by
  rcases sqrt_root2 ha with ⟨_, h0, h1, h2, h3⟩ | ⟨h1, _⟩
  · exact ⟨h0, h1, h2, by rw [greatF2_eq]; exact h3⟩
  · exact absurd h h1
theorem ng1 {a : Fp} (ha : a.ok) : (negF a).ok ∧ (negF a).v = -a.v := ⟨neg_ok' ha, v_neg ha⟩
theorem ng2 {a : Fp2} (ha : a.ok) : (negF2 a).ok ∧ (negF2 a).v = -a.v := ⟨neg_ok2 ha, v_neg2 ha⟩
theorem inj1 {a b : Fp} (ha : a.ok) (hb : b.ok) (h : a.v = b.v) : a = b := Fp.v_inj ha hb h
theorem inj2 {a b : Fp2} (ha : a.ok) (hb : b.ok) (h : a.v = b.v) : a = b := Fp2.v_inj ha hb h
theorem sq_eq {K : Type} [Fld K] {a b : K} (h : a * a = b * b) : a = b ∨ a = -b := by
  by_cases h1 : a = b
  · exact .inl h1
  · right
    have h2 : (a - b) * (a + b) = 0 := by grind
    have h3 : a - b ≠ 0 := fun e => h1 (by grind)
    have h4 := mul_eq_zero' h2
    rcases h4 with h4 | h4
    · exact absurd h4 h3
    · grind
theorem takeV_inf {P : Type} (l : List UInt8) (g : Bool) (z i : P) (c : P × Int) : takeV (l, true, g, 0) z i c = (i, 0) := rfl
theorem takeV_go {P : Type} (l : List UInt8) (g : Bool) (z i : P) (c : P × Int) : takeV (l, false, g, 0) z i c = c := rfl
theorem ff_beq : (false == false) = true := rfl
theorem ft_beq : (false == true) = false := rfl
theorem tf_beq : (true == false) = false := rfl
theorem tt_beq : (true == true) = true := rfl
theorem pair_eq {X : Type} {s : X × Bool} {y : X} (h1 : s.1 = y) (h2 : s.2 = true) : s = (y, true) := by
  obtain ⟨a, b⟩ := s
  obtain rfl : a = y := h1
  obtain rfl : b = true := h2
  rfl
theorem coreG_at {X P : Type} {xo : X × Int} {sF : X → X × Bool} {cub : X → X} {isz : X → Bool} {fin : Bool → X → X → P} {inF : P → Bool} {z : P} {high : Bool} {x s : X} {p : P} (hx : xo = (x, 0)) (hs : sF (cub x) = (s, true)) (hz : isz s = false) (hf : fin high x s = p) (hin : inF p = true) : coreG xo sF cub isz fin inF z high = (p, 0) := by
  subst hx
  unfold coreG
  simp only
  rw [hs]
  simp only
  rw [hz, hf, hin, Bool.and_false]
  rfl
theorem neg_aff1 (x y : Fp) : negG1 ⟨x, y, false⟩ = ⟨x, negF y, false⟩ := by rw [neg1_aff, negPF_eq]
theorem neg_aff2 (x y : Fp2) : negG2 ⟨x, y, false⟩ = ⟨x, negF2 y, false⟩ := by rw [neg2_aff, neg2R_eq]
theorem y_ne1 {x y : Fp} (h : (⟨x, y, false⟩ : Pg1).good) : y.v ≠ 0 := fun e => by
  have h1 : y.v * y.v = x.v * x.v * x.v + Crv.b := h.2
  rw [e] at h1
  exact Crv.no x.v (by rw [← h1]; exact CR.zero_mul _)
theorem oks1 {x y : Fp} (h : (⟨x, y, false⟩ : Pg1).good) : x.ok ∧ y.ok := by
  rcases h.1 with e | e
  · cases e
  · exact e.2
theorem negneg1 {y : Fp} (hy : y.ok) : negF (negF y) = y := by
  have h1 := ng1 hy
  have h2 := ng1 h1.1
  exact inj1 h2.1 hy (by rw [h2.2, h1.2]; grind)
theorem root_of1 {x y : Fp} (h : (⟨x, y, false⟩ : Pg1).good) : (sqrtF (cub1 x)).2 = true ∧ (sqrtF (cub1 x)).1 = cond (greatF y) (negF y) y := by
  obtain ⟨hx, hy⟩ := oks1 h
  have h0 := y_ne1 h
  have h1 : y.v * y.v = x.v * x.v * x.v + Crv.b := h.2
  obtain ⟨c1, c2⟩ := cub1_v hx
  obtain ⟨r1, r2, r3, r4⟩ := rt1 c1 ⟨y.v, by rw [h1, c2]⟩
  refine ⟨r1, ?_⟩
  rw [c2, ← h1] at r3
  have hn := ng1 hy
  rcases sq_eq r3 with e | e
  · have e := inj1 r2 hy e
    rw [e] at r4
    rw [r4, e, cond_false]
  · have e := inj1 r2 hn.1 (by rw [e, hn.2])
    rw [e, fr1 hy h0] at r4
    have r4 : greatF y = true := by
      cases hg : greatF y with
      | true => rfl
      | false => rw [hg] at r4; cases r4
    rw [r4, e, cond_true]
theorem finAt1 (g h : Bool) (x : Fp) {y : Fp} (hy : y.ok) : fin1 g x (cond h (negF y) y) = cond (g == h) ⟨x, y, false⟩ ⟨x, negF y, false⟩ := by
  unfold fin1
  cases g <;> cases h
  · rw [ff_beq, cond_true, cond_false, cond_false]
  · rw [ft_beq, cond_true, cond_false, cond_false]
  · rw [tf_beq, cond_false, cond_false, cond_true, neg_aff1]
  · rw [tt_beq, cond_true, cond_true, cond_true, neg_aff1, negneg1 hy]
theorem in_of1 {p : Pg1} (h : p.good) (hi : p.pt.mul qN = .inf) : inG1 p = true := (in1_iff _).2 ⟨h, hi⟩
theorem neg_sub1 {p : Pg1} (h : p.good) (hi : p.pt.mul qN = .inf) : (negG1 p).good ∧ (negG1 p).pt.mul qN = .inf := by
  obtain ⟨n1, n2⟩ := neg1_pt h
  exact ⟨n1, by rw [n2, neg_mul_pt h.2, hi]; rfl⟩
theorem in_cond1 {x y : Fp} (h : (⟨x, y, false⟩ : Pg1).good) (hi : (⟨x, y, false⟩ : Pg1).pt.mul qN = .inf) (c : Bool) : inG1 (cond c ⟨x, y, false⟩ ⟨x, negF y, false⟩) = true := by
  cases c
  · rw [cond_false, ← neg_aff1]
    obtain ⟨h1, h2⟩ := neg_sub1 h hi
    exact in_of1 h1 h2
  · rw [cond_true]
    exact in_of1 h hi
theorem isz_cond1 {y : Fp} (hy : y.ok) (h0 : y.v ≠ 0) (c : Bool) : fpEq (cond c (negF y) y) zeroFp = false := by
  have hn := ng1 hy
  cases c
  · rw [cond_false]
    exact isz1 hy h0
  · rw [cond_true]
    exact isz1 hn.1 fun e => h0 (by rw [hn.2] at e; grind)
theorem core_at1 {x y : Fp} (h : (⟨x, y, false⟩ : Pg1).good) (hi : (⟨x, y, false⟩ : Pg1).pt.mul qN = .inf) {l : List UInt8} (hl : ftakeF l = (x, 0)) (g : Bool) : core1 l g = (cond (g == greatF y) ⟨x, y, false⟩ ⟨x, negF y, false⟩, 0) := by
  obtain ⟨r1, r2⟩ := root_of1 h
  exact coreG_at hl (pair_eq r2 r1) (isz_cond1 (oks1 h).2 (y_ne1 h) _) (finAt1 g _ x (oks1 h).2) (in_cond1 h hi _)
theorem put1_hd {x y : Fp} (hx : x.ok) : put1F ⟨x, y, false⟩ = hdB (put1B x) (hiB (greatF y)) := by
  obtain ⟨h1, h2, h3, h4⟩ := put1B_ok hx
  rw [put1F_val]
  exact mark_hd h2 h3 _
theorem rput1_hd (x y : Fp) : rput1F ⟨x, y, false⟩ = hdB (put1B x) (hiB (greatF y)) := by
  rw [rput1F_val]
  exact rput_gen1 (great1_eq y) (fput_pos x)
theorem put1_eq {p : Pg1} (hp : p.good) : put1F p = rput1F p := by
  cases hi : p.inf with
  | true => rw [put1F_val, rput1F_val, hi]; rfl
  | false =>
    obtain ⟨x, y, i⟩ := p
    obtain rfl : i = false := hi
    rw [put1_hd (oks1 hp).1, rput1_hd]
theorem bare_inf1 : bareF inf1B 48 = (List.replicate 48 0, true, false, 0) := by decide +kernel
theorem take_inf1 : take1F inf1B = (infG1, 0) := by
  rw [take1F_val, bare_inf1]
  exact takeV_inf _ _ _ _ _
theorem read1 {p : Pg1} (hp : p.good) (hi : p.pt.mul qN = .inf) : take1F (put1F p) = (p, 0) := by
  cases hj : p.inf with
  | true =>
    obtain rfl := ok_inf1 hp.1 hj
    exact take_inf1
  | false =>
    obtain ⟨x, y, i⟩ := p
    obtain rfl : i = false := hj
    have hx := (oks1 hp).1
    obtain ⟨h1, h2, h3, h4⟩ := put1B_ok hx
    rw [put1_hd hx, take1F_val, bare_hd h1 h2 h3]
    refine (takeV_go _ _ _ _ _).trans ?_
    rw [core_at1 hp hi h4, beq_self_eq_true, cond_true]
theorem y_ne2 {x y : Fp2} (h : (⟨x, y, false⟩ : Pg2).good) : y.v ≠ 0 := fun e => by
  have h1 : y.v * y.v = x.v * x.v * x.v + Crv.b := h.2
  rw [e] at h1
  exact Crv.no x.v (by rw [← h1]; exact CR.zero_mul _)
theorem oks2 {x y : Fp2} (h : (⟨x, y, false⟩ : Pg2).good) : x.ok ∧ y.ok := by
  rcases h.1 with e | e
  · cases e
  · exact e.2
theorem negneg2 {y : Fp2} (hy : y.ok) : negF2 (negF2 y) = y := by
  have h1 := ng2 hy
  have h2 := ng2 h1.1
  exact inj2 h2.1 hy (by rw [h2.2, h1.2]; grind)
theorem root_of2 {x y : Fp2} (h : (⟨x, y, false⟩ : Pg2).good) : (sqrtF2 (cub2 x)).2 = true ∧ (sqrtF2 (cub2 x)).1 = cond (greatF2 y) (negF2 y) y := by
  obtain ⟨hx, hy⟩ := oks2 h
  have h0 := y_ne2 h
  have h1 : y.v * y.v = x.v * x.v * x.v + Crv.b := h.2
  obtain ⟨c1, c2⟩ := cub2_v hx
  obtain ⟨r1, r2, r3, r4⟩ := rt2 c1 ⟨y.v, by rw [h1, c2]⟩
  refine ⟨r1, ?_⟩
  rw [c2, ← h1] at r3
  have hn := ng2 hy
  rcases sq_eq r3 with e | e
  · have e := inj2 r2 hy e
    rw [e] at r4
    rw [r4, e, cond_false]
  · have e := inj2 r2 hn.1 (by rw [e, hn.2])
    rw [e, fr2 hy h0] at r4
    have r4 : greatF2 y = true := by
      cases hg : greatF2 y with
      | true => rfl
      | false => rw [hg] at r4; cases r4
    rw [r4, e, cond_true]
theorem finAt2 (g h : Bool) (x : Fp2) {y : Fp2} (hy : y.ok) : fin2 g x (cond h (negF2 y) y) = cond (g == h) ⟨x, y, false⟩ ⟨x, negF2 y, false⟩ := by
  unfold fin2
  cases g <;> cases h
  · rw [ff_beq, cond_true, cond_false, cond_false]
  · rw [ft_beq, cond_true, cond_false, cond_false]
  · rw [tf_beq, cond_false, cond_false, cond_true, neg_aff2]
  · rw [tt_beq, cond_true, cond_true, cond_true, neg_aff2, negneg2 hy]
theorem in_of2 {p : Pg2} (h : p.good) (hi : p.pt.mul qN = .inf) : inG2 p = true := (in2_iff _).2 ⟨h, hi⟩
theorem neg_sub2 {p : Pg2} (h : p.good) (hi : p.pt.mul qN = .inf) : (negG2 p).good ∧ (negG2 p).pt.mul qN = .inf := by
  obtain ⟨n1, n2⟩ := neg2_pt h
  exact ⟨n1, by rw [n2, neg_mul_pt h.2, hi]; rfl⟩
theorem in_cond2 {x y : Fp2} (h : (⟨x, y, false⟩ : Pg2).good) (hi : (⟨x, y, false⟩ : Pg2).pt.mul qN = .inf) (c : Bool) : inG2 (cond c ⟨x, y, false⟩ ⟨x, negF2 y, false⟩) = true := by
  cases c
  · rw [cond_false, ← neg_aff2]
    obtain ⟨h1, h2⟩ := neg_sub2 h hi
    exact in_of2 h1 h2
  · rw [cond_true]
    exact in_of2 h hi
theorem isz_cond2 {y : Fp2} (hy : y.ok) (h0 : y.v ≠ 0) (c : Bool) : fp2Eq (cond c (negF2 y) y) zeroFp2 = false := by
  have hn := ng2 hy
  cases c
  · rw [cond_false]
    exact isz2 hy h0
  · rw [cond_true]
    exact isz2 hn.1 fun e => h0 (by rw [hn.2] at e; grind)
theorem core_at2 {x y : Fp2} (h : (⟨x, y, false⟩ : Pg2).good) (hi : (⟨x, y, false⟩ : Pg2).pt.mul qN = .inf) {l : List UInt8} (hl : twoG ftakeF l = (x, 0)) (g : Bool) : core2 l g = (cond (g == greatF2 y) ⟨x, y, false⟩ ⟨x, negF2 y, false⟩, 0) := by
  obtain ⟨r1, r2⟩ := root_of2 h
  exact coreG_at hl (pair_eq r2 r1) (isz_cond2 (oks2 h).2 (y_ne2 h) _) (finAt2 g _ x (oks2 h).2) (in_cond2 h hi _)
theorem put2_hd {x y : Fp2} (hx : x.ok) : put2F ⟨x, y, false⟩ = hdB (put2B x) (hiB (greatF2 y)) := by
  obtain ⟨h1, h2, h3, h4⟩ := put2B_ok hx
  rw [put2F_val]
  exact mark_hd h2 h3 _
theorem rput2_hd (x y : Fp2) : rput2F ⟨x, y, false⟩ = hdB (put2B x) (hiB (greatF2 y)) := by
  rw [rput2F_val]
  exact rput_gen2 (great2_eq y) (two_pos x)
theorem put2_eq {p : Pg2} (hp : p.good) : put2F p = rput2F p := by
  cases hi : p.inf with
  | true => rw [put2F_val, rput2F_val, hi]; rfl
  | false =>
    obtain ⟨x, y, i⟩ := p
    obtain rfl : i = false := hi
    rw [put2_hd (oks2 hp).1, rput2_hd]
theorem bare_inf2 : bareF inf2B 96 = (List.replicate 96 0, true, false, 0) := by decide +kernel
theorem take_inf2 : take2F inf2B = (infG2, 0) := by
  rw [take2F_val, bare_inf2]
  exact takeV_inf _ _ _ _ _
theorem read2 {p : Pg2} (hp : p.good) (hi : p.pt.mul qN = .inf) : take2F (put2F p) = (p, 0) := by
  cases hj : p.inf with
  | true =>
    obtain rfl := ok_inf2 hp.1 hj
    exact take_inf2
  | false =>
    obtain ⟨x, y, i⟩ := p
    obtain rfl : i = false := hj
    have hx := (oks2 hp).1
    obtain ⟨h1, h2, h3, h4⟩ := put2B_ok hx
    rw [put2_hd hx, take2F_val, bare_hd h1 h2 h3]
    refine (takeV_go _ _ _ _ _).trans ?_
    rw [core_at2 hp hi h4, beq_self_eq_true, cond_true]
end Go.Proofs.YtbbnabednkopdaaGreat

set_option linter.unusedSimpArgs false
set_option linter.unusedVariables false
namespace Go.Proofs.YtbbnabednkopdaaGreat
open Go.RowKit
theorem on1R_inf {f0 : Fp → Bool} {f1 f2 : Fp → Fp → Fp} {f3 : UInt64 → Fp} {p : Pg1} (h : p.inf = true) : on1R_G f0 f1 f2 f3 p = (fpEq p.x zeroFp && fpEq p.y zeroFp) := by
  unfold on1R_G
  rw [h]
  cases fpEq p.x zeroFp <;> rfl
theorem on1R_aff {f0 : Fp → Bool} {f1 f2 : Fp → Fp → Fp} {f3 : UInt64 → Fp} {p : Pg1} (h : p.inf = false) : on1R_G f0 f1 f2 f3 p = (f0 p.x && f0 p.y && fpEq (f1 p.y p.y) (f2 (f1 (f1 p.x p.x) p.x) (f3 4))) := by
  unfold on1R_G
  rw [h]
  cases f0 p.x <;> cases f0 p.y <;> rfl
theorem may1R_eq (a : Fp) : mayPF a = mayF a := Bool.eq_iff_iff.2 (by rw [mayPF_ok, mayF_ok])
theorem on1R_eq (p : Pg1) : on1R p = onG1 p := by
  unfold on1R onG1
  cases hi : p.inf with
  | true =>
    rw [on1R_inf hi, onG1_inf hi]
    refine Bool.eq_iff_iff.2 ?_
    rw [Bool.and_eq_true, fpEq_iff, fpEq_iff, pg1Eq_iff]
    exact ⟨fun h => pg1_eq h.1 h.2 hi, fun h => by rw [h]; exact ⟨rfl, rfl⟩⟩
  | false =>
    rw [on1R_aff hi, onG1_aff hi, may1R_eq, may1R_eq]
    cases hx : mayF p.x with
    | false => simp only [Bool.false_and]
    | true =>
      cases hy : mayF p.y with
      | false => simp only [Bool.true_and, Bool.false_and]
      | true =>
        have hx := (mayF_ok _).1 hx
        have hy := (mayF_ok _).1 hy
        have hb : bFp1 = ofF 4 := rfl
        unfold rhsG1
        rw [rhs1_G_eq, mulPF_eq hy hy, mulPF_eq hx hx, mulPF_eq (mul_ok' hx) hx, addPF_eq, hb]
end Go.Proofs.YtbbnabednkopdaaGreat

set_option linter.unusedSimpArgs false
set_option linter.unusedVariables false
namespace Go.Proofs.YtbbnabednkopdaaGreat
open Go.RowKit
theorem on2R_inf {f0 : Fp2 → Bool} {f1 f2 : Fp2 → Fp2 → Fp2} {f3 : Fp2} {p : Pg2} (h : p.inf = true) : on2R_G f0 f1 f2 f3 p = (fp2Eq p.x zeroFp2 && fp2Eq p.y zeroFp2) := by
  unfold on2R_G
  rw [h]
  cases fp2Eq p.x zeroFp2 <;> rfl
theorem on2R_aff {f0 : Fp2 → Bool} {f1 f2 : Fp2 → Fp2 → Fp2} {f3 : Fp2} {p : Pg2} (h : p.inf = false) : on2R_G f0 f1 f2 f3 p = (f0 p.x && f0 p.y && fp2Eq (f1 p.y p.y) (f2 (f1 (f1 p.x p.x) p.x) f3)) := by
  unfold on2R_G
  rw [h]
  cases f0 p.x <;> cases f0 p.y <;> rfl
theorem may2RF_eq (a : Fp2) : may2R a = mayF2 a := Bool.eq_iff_iff.2 (by rw [may2R_iff, may2_iff])
theorem b2R_G_eq (f : UInt64 → Fp) : b2R_G f = ⟨f 4, f 4⟩ := rfl
theorem b2R_eq : b2R = bFp2 := by
  unfold b2R
  rw [b2R_G_eq]
  rfl
theorem on2R_eq (p : Pg2) : on2R p = onG2 p := by
  unfold on2R onG2
  cases hi : p.inf with
  | true =>
    rw [on2R_inf hi, onG2_inf hi]
    refine Bool.eq_iff_iff.2 ?_
    rw [Bool.and_eq_true, fp2Eq_iff, fp2Eq_iff, pg2Eq_iff]
    exact ⟨fun h => pg2_eq h.1 h.2 hi, fun h => by rw [h]; exact ⟨rfl, rfl⟩⟩
  | false =>
    rw [on2R_aff hi, onG2_aff hi, may2RF_eq, may2RF_eq]
    cases hx : mayF2 p.x with
    | false => simp only [Bool.false_and]
    | true =>
      cases hy : mayF2 p.y with
      | false => simp only [Bool.true_and, Bool.false_and]
      | true =>
        have hx := (may2_iff _).1 hx
        have hy := (may2_iff _).1 hy
        unfold rhsG2
        rw [rhs2_G_eq, mul2R_eq hy hy, mul2R_eq hx hx, mul2R_eq (mul_ok2 hx hx) hx, add2R_eq, b2R_eq]
end Go.Proofs.YtbbnabednkopdaaGreat

set_option linter.unusedSimpArgs false
set_option linter.unusedVariables false
namespace Go.Proofs.YtbbnabednkopdaaGreat
open Go.RowKit
theorem begun10_L {g1 : Pg1} {p1 : Pg1 → List UInt8} {t1 : List UInt8 → Pg1 × Int} {g2 : Pg2} {p2 : Pg2 → List UInt8} {t2 : List UInt8 → Pg2 × Int} (h1 : t1 (p1 g1) = (g1, 0)) (h2 : t2 (p2 g2) = (g2, 0)) : (begun10_T g1 p1 t1 g2 p2 t2).outD false = true := by
  unfold begun10_T
  simp only [outD_br, outD_vc, outD_leaf, List.drop_zero, List.take_length, h1, h2, (pg1Eq_iff g1 g1).2 rfl, beq_self_eq_true, Bool.and_true, cond_true]
theorem begun10_true : begun10 = true := begun10_L (read1 gen1_good gen1_order) (read2 gen2_good gen2_order)
theorem writes_vc (f0 : Bool) (f1 : Fr → Bool) (f2 : Pg1 → Fr → Pg1) (f3 : Pg1) (f4 : Pg2 → Fr → Pg2) (f5 : Pg2) (f6 : UInt64 → Pg1 × Bool) (f7 : UInt64 → Pg2 × Bool) (f8 : Pg1 → Bool) (f9 : Pg2 → Bool) (f10 : Pg1 → List UInt8) (f11 : Pg2 → List UInt8) (f12 : Pg1 → List UInt8) (f13 : Pg2 → List UInt8) (k : Fr) (n : UInt64) (out : Bool) : (ptWrites_T f0 f1 f2 f3 f4 f5 f6 f7 f8 f9 f10 f11 f12 f13 k n out).full = true ∧ (ptWrites_T f0 f1 f2 f3 f4 f5 f6 f7 f8 f9 f10 f11 f12 f13 k n out).okAll := by
  refine ⟨rfl, ?_⟩
  unfold ptWrites_T
  simp only [Tree.okAll, Pr.holds, implies_true, and_true, true_and, Nat.zero_add, Nat.le_refl]
theorem writes_L {f0 : Bool} {f1 : Fr → Bool} {f2 : Pg1 → Fr → Pg1} {f3 : Pg1} {f4 : Pg2 → Fr → Pg2} {f5 : Pg2} {f6 : UInt64 → Pg1 × Bool} {f7 : UInt64 → Pg2 × Bool} {f8 : Pg1 → Bool} {f9 : Pg2 → Bool} {f10 : Pg1 → List UInt8} {f11 : Pg2 → List UInt8} {f12 : Pg1 → List UInt8} {f13 : Pg2 → List UInt8}
    (h0 : f0 = true) (h1 : ∀ a, f8 a = true → f10 a = f12 a) (h2 : ∀ a, f9 a = true → f11 a = f13 a) (h3 : f10 infG1 = f12 infG1) (k : Fr) (n : UInt64) (out : Bool) : (ptWrites_T f0 f1 f2 f3 f4 f5 f6 f7 f8 f9 f10 f11 f12 f13 k n out).outD false = true := by
  have h3' : f10 { x := { l0 := UInt64.ofNat 0, l1 := UInt64.ofNat 0, l2 := UInt64.ofNat 0, l3 := UInt64.ofNat 0, l4 := UInt64.ofNat 0, l5 := UInt64.ofNat 0 }, y := { l0 := UInt64.ofNat 0, l1 := UInt64.ofNat 0, l2 := UInt64.ofNat 0, l3 := UInt64.ofNat 0, l4 := UInt64.ofNat 0, l5 := UInt64.ofNat 0 }, inf := true } = f12 { x := { l0 := UInt64.ofNat 0, l1 := UInt64.ofNat 0, l2 := UInt64.ofNat 0, l3 := UInt64.ofNat 0, l4 := UInt64.ofNat 0, l5 := UInt64.ofNat 0 }, y := { l0 := UInt64.ofNat 0, l1 := UInt64.ofNat 0, l2 := UInt64.ofNat 0, l3 := UInt64.ofNat 0, l4 := UInt64.ofNat 0, l5 := UInt64.ofNat 0 }, inf := true } := h3
  unfold ptWrites_T
  subst h0
  simp only [outD_br, outD_vc, outD_leaf, whole8, h3', beq_self_eq_true, cond_true, Bool.not_true, cond_false, Bool.and_true]
  cases f1 k with
  | false => rfl
  | true =>
    cases out with
    | true =>
      cases h8 : f8 (f6 n).1 with
      | false => rfl
      | true =>
        cases h9 : f9 (f7 n).1 with
        | false => rfl
        | true =>
          rw [h1 _ h8, h2 _ h9]
          simp only [beq_self_eq_true, cond_true, Bool.not_true, cond_false]
    | false =>
      cases h8 : f8 (f2 f3 k) with
      | false => rfl
      | true =>
        cases h9 : f9 (f4 f5 k) with
        | false => rfl
        | true =>
          rw [h1 _ h8, h2 _ h9]
          simp only [beq_self_eq_true, cond_true, Bool.not_true, cond_false]
theorem pointWrites_gives {w : World} {vk vn vo : Value} {k : Fr} {n : UInt64} {out : Bool} (gk : (kRow Fr).arg.is w vk k) (gn : kU64.arg.is w vn n) (go : kBool.arg.is w vo out) : Gives Tryz.prog 7 #[vk, vn, vo] w kBool.rs.res true := by
  have := ptWrites_gives' (fun k n out => writes_vc _ _ _ _ _ _ _ _ _ _ _ _ _ _ k n out) gk gn go
  rw [show ptWrites k n out = true from writes_L begun10_true (fun a h => put1_eq ((on1_iff a).1 ((on1R_eq a).symm.trans h))) (fun a h => put2_eq ((on2_iff a).1 ((on2R_eq a).symm.trans h))) (put1_eq good_inf1) k n out] at this
  exact this
end Go.Proofs.YtbbnabednkopdaaGreat
