/- Texts of the proof, joined. -/
import Derived.Test.YtbbnabednkopdaaGreatZJr7
set_option linter.unusedSimpArgs false
set_option linter.unusedVariables false
namespace Go.Proofs.YtbbnabednkopdaaGreat
open Go.RowKit
theorem u8_all {p : UInt8 → Bool} (h : (List.range 256).all (fun n => p (UInt8.ofNat n)) = true) (b : UInt8) : p b = true := by
  have := List.all_eq_true.1 h b.toNat (List.mem_range.2 b.toNat_lt)
  rwa [UInt8.ofNat_toNat] at this
theorem u8_all2 {p : UInt8 → UInt8 → Bool} (h : (List.range 256).all (fun n => (List.range 256).all fun m => p (UInt8.ofNat n) (UInt8.ofNat m)) = true) (b c : UInt8) : p b c = true := by
  have h1 := List.all_eq_true.1 h b.toNat (List.mem_range.2 b.toNat_lt)
  have h2 := List.all_eq_true.1 h1 c.toNat (List.mem_range.2 c.toNat_lt)
  rwa [UInt8.ofNat_toNat, UInt8.ofNat_toNat] at h2
theorem b_and (c : UInt8) : c &&& ~~~(UInt8.ofNat 224) = c % UInt8.ofNat 32 := eq_of_beq (u8_all (p := fun c => c &&& ~~~(UInt8.ofNat 224) == c % UInt8.ofNat 32) (by decide +kernel) c)
theorem b_7 (c : UInt8) : (c &&& UInt8.ofNat 128 == UInt8.ofNat 0) = decide (shrB c 5 < UInt8.ofNat 4) := eq_of_beq (u8_all (p := fun c => (c &&& UInt8.ofNat 128 == UInt8.ofNat 0) == decide (shrB c 5 < UInt8.ofNat 4)) (by decide +kernel) c)
theorem b_6 (c : UInt8) : (decide (shrB c 5 < UInt8.ofNat 4) || ((c &&& UInt8.ofNat 64 != UInt8.ofNat 0) == decide (UInt8.ofNat 6 ≤ shrB c 5))) = true := u8_all (p := fun c => decide (shrB c 5 < UInt8.ofNat 4) || ((c &&& UInt8.ofNat 64 != UInt8.ofNat 0) == decide (UInt8.ofNat 6 ≤ shrB c 5))) (by decide +kernel) c
theorem b_5a (c : UInt8) : (decide (shrB c 5 < UInt8.ofNat 4) || decide (UInt8.ofNat 6 ≤ shrB c 5) || ((c &&& UInt8.ofNat 32 != UInt8.ofNat 0) == (shrB c 5 == UInt8.ofNat 5))) = true := u8_all (p := fun c => decide (shrB c 5 < UInt8.ofNat 4) || decide (UInt8.ofNat 6 ≤ shrB c 5) || ((c &&& UInt8.ofNat 32 != UInt8.ofNat 0) == (shrB c 5 == UInt8.ofNat 5))) (by decide +kernel) c
theorem b_5b (c : UInt8) : (!decide (UInt8.ofNat 6 ≤ shrB c 5) || ((c &&& UInt8.ofNat 32 != UInt8.ofNat 0) == (shrB c 5 == UInt8.ofNat 7))) = true := u8_all (p := fun c => !decide (UInt8.ofNat 6 ≤ shrB c 5) || ((c &&& UInt8.ofNat 32 != UInt8.ofNat 0) == (shrB c 5 == UInt8.ofNat 7))) (by decide +kernel) c
theorem bare_headL (b : List UInt8) : bareL b = headL b := by unfold bareL headL; rw [b_and]
theorem bhG (c1 c2 c3 c4 c5 c6 d5 c7 : Bool) (l : List UInt8) (h5 : c3 = false → c4 = false → c5 = d5) (h7 : c3 = false → c4 = true → c5 = c7) :
    (bareG c1 c2 c3 c4 c5 c6 l).2 = (headG c1 c2 c3 c4 d5 c6 c7 l).2 ∧ ((bareG c1 c2 c3 c4 c5 c6 l).2.1 = false → (bareG c1 c2 c3 c4 c5 c6 l).1 = (headG c1 c2 c3 c4 d5 c6 c7 l).1) ∧ (((headG c1 c2 c3 c4 d5 c6 c7 l).2.2.2 != 0) = true → (headG c1 c2 c3 c4 d5 c6 c7 l).2.1 = false) := by
  cases c1 with
  | true => exact ⟨rfl, fun _ => rfl, fun _ => rfl⟩
  | false =>
  cases c2 with
  | true => exact ⟨rfl, fun _ => rfl, fun _ => rfl⟩
  | false =>
  cases c3 with
  | true => exact ⟨rfl, fun _ => rfl, fun _ => rfl⟩
  | false =>
  cases c4 with
  | false =>
    obtain rfl := h5 rfl rfl
    exact ⟨rfl, fun _ => rfl, fun _ => rfl⟩
  | true =>
    obtain rfl := h7 rfl rfl
    cases c5 <;> cases c6 <;> first
      | exact ⟨rfl, fun _ => rfl, fun _ => rfl⟩
      | exact ⟨rfl, fun h => Bool.noConfusion h, fun h => Bool.noConfusion h⟩
theorem bhF (b : List UInt8) (n : Int) : (bareF b n).2 = (headF b n).2 ∧ ((bareF b n).2.1 = false → (bareF b n).1 = (headF b n).1) ∧ (((headF b n).2.2.2 != 0) = true → (headF b n).2.1 = false) := by
  unfold bareF headF
  rw [show bit7 b = decide (headT b < UInt8.ofNat 4) from b_7 _, bare_headL]
  have h6 := b_6 (b.getD 0 0)
  have h5 := b_5a (b.getD 0 0)
  have h7 := b_5b (b.getD 0 0)
  cases hc : decide (headT b < UInt8.ofNat 4) with
  | true =>
    generalize decide ((b.length : Int) < n) = c1
    generalize decide ((b.length : Int) > n) = c2
    cases c1 <;> cases c2 <;> exact ⟨rfl, fun _ => rfl, fun _ => rfl⟩
  | false =>
    have hc' : decide (shrB (b.getD 0 0) 5 < UInt8.ofNat 4) = false := hc
    rw [hc', Bool.false_or] at h6
    rw [show bit6 b = decide (UInt8.ofNat 6 ≤ headT b) from eq_of_beq h6]
    refine bhG _ _ _ _ _ _ _ _ _ (fun _ h => ?_) (fun _ h => ?_)
    · rw [hc', Bool.false_or, show decide (UInt8.ofNat 6 ≤ shrB (b.getD 0 0) 5) = false from h, Bool.false_or] at h5
      exact eq_of_beq h5
    · rw [show decide (UInt8.ofNat 6 ≤ shrB (b.getD 0 0) 5) = true from h, Bool.not_true, Bool.false_or] at h7
      exact eq_of_beq h7
theorem coreG_congr {X P : Type} {xo xo' : X × Int} {sF sF' : X → X × Bool} {cub cub' : X → X} {isz : X → Bool} {fin fin' : Bool → X → X → P} {inF inF' : P → Bool} {z : P} {high : Bool} (hx : xo = xo')
    (hs : xo.2 = 0 → sF (cub xo.1) = sF' (cub' xo.1)) (hf : xo.2 = 0 → (sF (cub xo.1)).2 = true → fin high xo.1 (sF (cub xo.1)).1 = fin' high xo.1 (sF (cub xo.1)).1 ∧ inF (fin high xo.1 (sF (cub xo.1)).1) = inF' (fin high xo.1 (sF (cub xo.1)).1)) :
    coreG xo sF cub isz fin inF z high = coreG xo' sF' cub' isz fin' inF' z high := by
  subst hx
  unfold coreG
  cases h : (xo.2 != 0) with
  | true => rfl
  | false =>
    have h0 := int_zero h
    rw [← hs h0]
    cases hi : (sF (cub xo.1)).2 with
    | false => rfl
    | true =>
      obtain ⟨e1, e2⟩ := hf h0 hi
      rw [e2, e1]
theorem takeV_congr {P : Type} {r s : List UInt8 × Bool × Bool × Int} {z i : P} {c d : P × Int} (h : r.2 = s.2) (hc : r.2.1 = false → c = d) : takeV r z i c = takeV s z i d := by
  unfold takeV
  rw [← h]
  cases hi : r.2.1 with
  | true => rfl
  | false => rw [hc hi]
theorem taken_ok {l : List UInt8} (h : (ftakeF l).2 = 0) : (ftakeF l).1.ok := by
  have key : ∀ (n : Nat) (x : Fp) (m : Bool), (m = true → x.ok) → (takeG n x m).2 = 0 → (takeG n x m).1.ok := fun n x m hm => by
    unfold takeG
    cases decide ((n : Int) < 48) with
    | true => exact fun e => absurd e int2
    | false =>
      cases decide ((n : Int) > 48) with
      | true => exact fun e => absurd e int8
      | false =>
        cases m with
        | false => exact fun e => absurd (show (4 : Int) = 0 from e) (by decide)
        | true => exact fun _ => hm rfl
  exact key _ _ _ (fun h => (mayF_ok _).1 h) h
abbrev cub1 (x : Fp) : Fp := addF (mulF (mulF x x) x) (ofF 4)
abbrev cub1R (x : Fp) : Fp := addPF (mulPF (mulPF x x) x) (ofF 4)
abbrev cub2 (x : Fp2) : Fp2 := addF2 (mulF2 (mulF2 x x) x) bFp2
abbrev cub2R (x : Fp2) : Fp2 := add2R (mul2R (mul2R x x) x) b2R
theorem of4 : ofF 4 = bFp1 := (fpEq_iff _ _).1 (by decide +kernel)
theorem cub1_eq {x : Fp} (hx : x.ok) : cub1 x = cub1R x := by
  unfold cub1 cub1R
  rw [addPF_eq, mulPF_eq hx hx, mulPF_eq (mul_ok' hx) hx]
theorem cub1_v {x : Fp} (hx : x.ok) : (cub1 x).ok ∧ (cub1 x).v = x.v * x.v * x.v + Crv.b := by
  have h1 : (mulF x x).ok := mul_ok' hx
  have h2 : (mulF (mulF x x) x).ok := mul_ok' h1
  have hb := bFp1_v
  unfold cub1
  rw [of4]
  exact ⟨add_ok' h2 hb.1, by rw [v_add h2 hb.1, v_mul h1 hx, v_mul hx hx, hb.2]⟩
theorem b2R_b : b2R = bFp2 := (fp2Eq_iff _ _).1 (by decide +kernel)
theorem cub2_eq {x : Fp2} (hx : x.ok) : cub2 x = cub2R x := by
  unfold cub2 cub2R
  rw [add2R_eq, mul2R_eq hx hx, mul2R_eq (mul_ok2 hx hx) hx, b2R_b]
theorem cub2_v {x : Fp2} (hx : x.ok) : (cub2 x).ok ∧ (cub2 x).v = x.v * x.v * x.v + Crv.b := by
  have h1 : (mulF2 x x).ok := mul_ok2 hx hx
  have h2 : (mulF2 (mulF2 x x) x).ok := mul_ok2 h1 hx
  have hb := bFp2_v
  unfold cub2
  exact ⟨add_ok2 h2 hb.1, by rw [v_add2 h2 hb.1, v_mul2 h1 hx, v_mul2 hx hx, hb.2]⟩
theorem s1_eq {x : Fp} (hx : x.ok) : sqrtF (cub1 x) = sqrtPF (cub1R x) := (sqrtPF_eq (cub1_v hx).1).symm.trans (congrArg sqrtPF (cub1_eq hx))
theorem s2_eq {x : Fp2} (hx : x.ok) : sqrtF2 (cub2 x) = sqrt2R (cub2R x) := (sqrt2R_eq (cub2_v hx).1).symm.trans (congrArg sqrt2R (cub2_eq hx))
theorem over1 {x : Fp} (hx : x.ok) (h : (sqrtF (cub1 x)).2 = true) : (⟨x, (sqrtF (cub1 x)).1, false⟩ : Pg1).good := by
  obtain ⟨c1, c2⟩ := cub1_v hx
  refine (good1_mk hx (sqrt_ok' c1) rfl rfl ?_).1
  show _ = _
  rw [sqrt_v c1 h, c2]
theorem root2_of {a : Fp2} (ha : a.ok) (h : (sqrtF2 a).2 = true) : (sqrtF2 a).1.ok ∧ (sqrtF2 a).1.v * (sqrtF2 a).1.v = a.v ∧ great2V (sqrtF2 a).1 = false := by
  rcases sqrt_root2 ha with ⟨_, _, h1, h2, h3⟩ | ⟨_, h1⟩
  · exact ⟨h1, h2, h3⟩
  · rw [h1] at h; cases h
theorem over2 {x : Fp2} (hx : x.ok) (h : (sqrtF2 (cub2 x)).2 = true) : (⟨x, (sqrtF2 (cub2 x)).1, false⟩ : Pg2).good := by
  obtain ⟨c1, c2⟩ := cub2_v hx
  obtain ⟨r1, r2, _⟩ := root2_of c1 h
  refine (good2_mk hx r1 rfl rfl ?_).1
  show _ = _
  rw [r2, c2]
theorem neg1_aff (x y : Fp) : negG1 ⟨x, y, false⟩ = ⟨x, negPF y, false⟩ := by rw [← minus1R_eq]; exact minus1R_aff rfl
theorem neg2_aff (x y : Fp2) : negG2 ⟨x, y, false⟩ = ⟨x, neg2R y, false⟩ := by rw [← minus2R_eq]; exact minus2R_aff rfl
abbrev fin1 (h : Bool) (x y : Fp) : Pg1 := cond h (negG1 ⟨x, y, false⟩) ⟨x, y, false⟩
abbrev fin2 (h : Bool) (x y : Fp2) : Pg2 := cond h (negG2 ⟨x, y, false⟩) ⟨x, y, false⟩
theorem fin1_good {x : Fp} (h : Bool) (hx : x.ok) (hs : (sqrtF (cub1 x)).2 = true) : (fin1 h x (sqrtF (cub1 x)).1).good := by
  cases h with
  | false => exact over1 hx hs
  | true => exact (neg1_pt (over1 hx hs)).1
theorem fin2_good {x : Fp2} (h : Bool) (hx : x.ok) (hs : (sqrtF2 (cub2 x)).2 = true) : (fin2 h x (sqrtF2 (cub2 x)).1).good := by
  cases h with
  | false => exact over2 hx hs
  | true => exact (neg2_pt (over2 hx hs)).1
abbrev core1 (l : List UInt8) (h : Bool) : Pg1 × Int := coreG (ftakeF l) sqrtF cub1 (fun y => fpEq y zeroFp) fin1 inG1 pg10 h
abbrev core2 (l : List UInt8) (h : Bool) : Pg2 × Int := coreG (twoG ftakeF l) sqrtF2 cub2 (fun y => fp2Eq y zeroFp2) fin2 inG2 pg20 h
theorem condE {P : Type} (h : Bool) {a a' b : P} (e : a = a') : cond h a b = cond h a' b := by rw [e]
theorem finE1 (h : Bool) (x y : Fp) : fin1 h x y = (fun h x y => cond h ⟨x, negPF y, false⟩ ⟨x, y, false⟩ : Bool → Fp → Fp → Pg1) h x y := condE h (neg1_aff x y)
theorem core1_gen {xo xo' : Fp × Int} (hx : xo = xo') (ho : xo.2 = 0 → xo.1.ok) (h : Bool) : coreG xo sqrtF cub1 (fun y => fpEq y zeroFp) fin1 inG1 pg10 h = coreG xo' sqrtPF cub1R (fun y => fpEq y zeroFp) (fun h x y => cond h ⟨x, negPF y, false⟩ ⟨x, y, false⟩) in1R pg10 h :=
  coreG_congr hx (fun e => s1_eq (ho e)) (fun e hs => ⟨finE1 h _ _, (in1R_eq (fin1_good h (ho e) hs)).symm⟩)
theorem core1_eq (l : List UInt8) (h : Bool) : core1 l h = coreG (rftakeF l) sqrtPF cub1R (fun y => fpEq y zeroFp) (fun h x y => cond h ⟨x, negPF y, false⟩ ⟨x, y, false⟩) in1R pg10 h := core1_gen (take_eq l) taken_ok h
theorem two_ok {l : List UInt8} (h : (twoG ftakeF l).2 = 0) : (twoG ftakeF l).1.ok := by
  unfold twoG at h ⊢
  cases h1 : ((ftakeF (List.take 48 l)).2 != 0) with
  | true =>
    rw [h1] at h
    have h : (ftakeF (List.take 48 l)).2 = 0 := h
    rw [h] at h1
    cases h1
  | false =>
    rw [h1] at h
    cases h2 : ((ftakeF (List.drop 48 l)).2 != 0) with
    | true =>
      rw [h2] at h
      have h : (ftakeF (List.drop 48 l)).2 = 0 := h
      rw [h] at h2
      cases h2
    | false => exact Fp2.mk_ok (taken_ok (int_zero h2)) (taken_ok (int_zero h1))
theorem finE2 (h : Bool) (x y : Fp2) : fin2 h x y = (fun h x y => cond h ⟨x, neg2R y, false⟩ ⟨x, y, false⟩ : Bool → Fp2 → Fp2 → Pg2) h x y := condE h (neg2_aff x y)
theorem core2_gen {xo xo' : Fp2 × Int} (hx : xo = xo') (ho : xo.2 = 0 → xo.1.ok) (h : Bool) : coreG xo sqrtF2 cub2 (fun y => fp2Eq y zeroFp2) fin2 inG2 pg20 h = coreG xo' sqrt2R cub2R (fun y => fp2Eq y zeroFp2) (fun h x y => cond h ⟨x, neg2R y, false⟩ ⟨x, y, false⟩) in2R pg20 h :=
  coreG_congr hx (fun e => s2_eq (ho e)) (fun e hs => ⟨finE2 h _ _, (in2R_eq (fin2_good h (ho e) hs)).symm⟩)
theorem two_eq (l : List UInt8) : twoG ftakeF l = twoG rftakeF l := by unfold twoG; rw [← take_eq, ← take_eq]
theorem core2_eq (l : List UInt8) (h : Bool) : core2 l h = coreG (twoG rftakeF l) sqrt2R cub2R (fun y => fp2Eq y zeroFp2) (fun h x y => cond h ⟨x, neg2R y, false⟩ ⟨x, y, false⟩) in2R pg20 h := core2_gen (two_eq l) two_ok h
theorem take1F_val (b : List UInt8) : take1F b = takeV (bareF b 48) pg10 infG1 (core1 (bareF b 48).1 (bareF b 48).2.2.1) := take1_val bareF ftakeF sqrtF addF mulF ofF negG1 inG1 b
theorem take2F_val (b : List UInt8) : take2F b = takeV (bareF b 96) pg20 infG2 (core2 (bareF b 96).1 (bareF b 96).2.2.1) := take2_val bareF ftakeF sqrtF2 addF2 mulF2 negG2 inG2 b
theorem rtake1F_eq (b : List UInt8) : take1F b = rtake1F b := by
  obtain ⟨h1, h2, h3⟩ := bhF b 48
  rw [take1F_val]
  refine Eq.trans ?_ (rtake1_val headF rftakeF sqrtPF addPF mulPF ofF negPF in1R b h3).symm
  refine takeV_congr h1 fun hi => ?_
  rw [← h2 hi, ← h1]
  exact core1_eq _ _
theorem rtake2F_eq (b : List UInt8) : take2F b = rtake2F b := by
  obtain ⟨h1, h2, h3⟩ := bhF b 96
  rw [take2F_val]
  refine Eq.trans ?_ (rtake2_val headF rftakeF sqrt2R add2R mul2R b2R neg2R in2R b h3).symm
  refine takeV_congr h1 fun hi => ?_
  rw [← h2 hi, ← h1]
  exact core2_eq _ _
end Go.Proofs.YtbbnabednkopdaaGreat

set_option linter.unusedSimpArgs false
set_option linter.unusedVariables false
namespace Go.Proofs.YtbbnabednkopdaaGreat
open Go.RowKit
theorem getD_hd (l : List UInt8) (h : 0 < l.length) (v : UInt8) : (l.set 0 v).getD 0 0 = v := by
  cases l with
  | nil => cases h
  | cons a l => rfl
theorem set_hd (l : List UInt8) : l.set 0 (l.getD 0 0) = l := by
  cases l with
  | nil => rfl
  | cons a l => rfl
theorem set_set_hd (l : List UInt8) (v w : UInt8) : (l.set 0 v).set 0 w = l.set 0 w := by
  cases l with
  | nil => rfl
  | cons a l => rfl
theorem getD_hdB (l : List UInt8) (h : 0 < l.length) (t : UInt8) : (hdB l t).getD 0 0 = l.getD 0 0 + t := getD_hd l h _
abbrev hiB (g : Bool) : UInt8 := cond g 160 128
theorem b_or (c : UInt8) : (!decide (c < 32) || (c ||| 128 == c + 128 && (c ||| 128 ||| 32 == c + 160))) = true := u8_all (p := fun c => !decide (c < 32) || (c ||| 128 == c + 128 && (c ||| 128 ||| 32 == c + 160))) (by decide +kernel) c
theorem b_hi (c : UInt8) : (!decide (c < 32) || (((c + 128) &&& UInt8.ofNat 128 == UInt8.ofNat 0) == false && ((c + 160) &&& UInt8.ofNat 128 == UInt8.ofNat 0) == false && ((c + 128) &&& UInt8.ofNat 64 != UInt8.ofNat 0) == false && ((c + 160) &&& UInt8.ofNat 64 != UInt8.ofNat 0) == false && ((c + 128) &&& UInt8.ofNat 32 != UInt8.ofNat 0) == false && ((c + 160) &&& UInt8.ofNat 32 != UInt8.ofNat 0) == true && (c + 128) &&& ~~~(UInt8.ofNat 224) == c && (c + 160) &&& ~~~(UInt8.ofNat 224) == c)) = true := u8_all (p := fun c => !decide (c < 32) || (((c + 128) &&& UInt8.ofNat 128 == UInt8.ofNat 0) == false && ((c + 160) &&& UInt8.ofNat 128 == UInt8.ofNat 0) == false && ((c + 128) &&& UInt8.ofNat 64 != UInt8.ofNat 0) == false && ((c + 160) &&& UInt8.ofNat 64 != UInt8.ofNat 0) == false && ((c + 128) &&& UInt8.ofNat 32 != UInt8.ofNat 0) == false && ((c + 160) &&& UInt8.ofNat 32 != UInt8.ofNat 0) == true && (c + 128) &&& ~~~(UInt8.ofNat 224) == c && (c + 160) &&& ~~~(UInt8.ofNat 224) == c)) (by decide +kernel) c
theorem mark_hd {l : List UInt8} (h0 : 0 < l.length) (hc : l.getD 0 0 < 32) (g : Bool) : markF l (false, g, ()) = hdB l (hiB g) := by
  have h := b_or (l.getD 0 0)
  rw [decide_eq_true hc, Bool.not_true, Bool.false_or, Bool.and_eq_true] at h
  have h1 := eq_of_beq h.1
  have h2 := eq_of_beq h.2
  cases g with
  | false =>
    show l.set 0 (l.getD 0 0 ||| 128) = _
    rw [h1]
    rfl
  | true =>
    show (l.set 0 (l.getD 0 0 ||| 128)).set 0 ((l.set 0 (l.getD 0 0 ||| 128)).getD 0 0 ||| 32) = _
    rw [getD_hd l h0, set_set_hd, h2]
    rfl
theorem bare_hd {l : List UInt8} {n : Int} (hl : (l.length : Int) = n) (h0 : 0 < l.length) (hc : l.getD 0 0 < 32) (g : Bool) : bareF (hdB l (hiB g)) n = (l, false, g, 0) := by
  have h := b_hi (l.getD 0 0)
  rw [decide_eq_true hc, Bool.not_true, Bool.false_or] at h
  simp only [Bool.and_eq_true] at h
  obtain ⟨⟨⟨⟨⟨⟨⟨a1, a2⟩, a3⟩, a4⟩, a5⟩, a6⟩, a7⟩, a8⟩ := h
  have e1 : bit7 (hdB l (hiB g)) = false := by
    unfold bit7
    rw [getD_hdB l h0]
    cases g
    · exact eq_of_beq a1
    · exact eq_of_beq a2
  have e2 : bit6 (hdB l (hiB g)) = false := by
    unfold bit6
    rw [getD_hdB l h0]
    cases g
    · exact eq_of_beq a3
    · exact eq_of_beq a4
  have e3 : bit5 (hdB l (hiB g)) = g := by
    unfold bit5
    rw [getD_hdB l h0]
    cases g
    · exact eq_of_beq a5
    · exact eq_of_beq a6
  have e4 : bareL (hdB l (hiB g)) = l := by
    unfold bareL
    rw [getD_hdB l h0]
    unfold hdB
    rw [set_set_hd]
    cases g
    · exact (congrArg (l.set 0) (eq_of_beq a7)).trans (set_hd l)
    · exact (congrArg (l.set 0) (eq_of_beq a8)).trans (set_hd l)
  unfold bareF
  rw [e1, e2, e3, e4, hdB_len, decide_eq_false (show ¬ (l.length : Int) < n by omega), decide_eq_false (show ¬ (l.length : Int) > n by omega)]
  rfl
theorem pN_top : pN < 32 * 256 ^ 47 := by decide +kernel
theorem top_low {x : Fp} (hx : x.ok) : (fputF x).getD 0 0 < 32 := by
  have hl : (cutF x.list).length ≤ 6 := Nat.le_trans (cutF_len x.list) (Nat.le_of_eq (fp_short x))
  have hv : bsum (cutF x.list) 48 = x.nat := by rw [show (48 : Nat) = 8 * 6 from rfl, bsum_val, valAt_out _ hl, valL_cut, valL_list]
  have hh : (fputF x).getD 0 0 = byteAt (cutF x.list) 47 := by
    rw [fput_full]
    exact bAt_full (cutF x.list) (n := 48) (t := 0) (by decide)
  have hs : bsum (cutF x.list) 48 = bsum (cutF x.list) 47 + (byteAt (cutF x.list) 47).toNat * 256 ^ 47 := rfl
  rw [hh]
  show (byteAt (cutF x.list) 47).toNat < 32
  have hx : x.nat < pN := hx
  have hp := pN_top
  generalize (256 : Nat) ^ 47 = q at *
  generalize (byteAt (cutF x.list) 47).toNat = c at *
  rcases Nat.lt_or_ge c 32 with h | h
  · exact h
  · have := Nat.mul_le_mul_right q h
    omega
theorem fput_pos (x : Fp) : 0 < (fputF x).length := by rw [fput_len']; decide
theorem two_top {x : Fp2} (hx : x.ok) : (fputF x.c1 ++ fputF x.c0).getD 0 0 < 32 := by
  have h := top_low hx.2
  have h0 := fput_pos x.c1
  generalize fputF x.c1 = l at *
  cases l with
  | nil => cases h0
  | cons a l => exact h
theorem two_len (x : Fp2) : (fputF x.c1 ++ fputF x.c0).length = 96 := by rw [List.length_append, fput_len', fput_len']
theorem two_pos (x : Fp2) : 0 < (fputF x.c1 ++ fputF x.c0).length := by rw [two_len]; decide
theorem twoG_put {x : Fp2} (hx : x.ok) : twoG ftakeF (fputF x.c1 ++ fputF x.c0) = (x, 0) := by
  unfold twoG
  rw [List.take_left' (fput_len' x.c1), List.drop_left' (fput_len' x.c1), take_put hx.1, take_put hx.2]
  rfl
abbrev put1B (x : Fp) : List UInt8 := fputF x
abbrev put2B (x : Fp2) : List UInt8 := fputF x.c1 ++ fputF x.c0
theorem put1B_ok {x : Fp} (hx : x.ok) : ((put1B x).length : Int) = 48 ∧ 0 < (put1B x).length ∧ (put1B x).getD 0 0 < 32 ∧ ftakeF (put1B x) = (x, 0) := ⟨by rw [show (put1B x).length = 48 from fput_len' x]; rfl, fput_pos x, top_low hx, take_put hx⟩
theorem put2B_ok {x : Fp2} (hx : x.ok) : ((put2B x).length : Int) = 96 ∧ 0 < (put2B x).length ∧ (put2B x).getD 0 0 < 32 ∧ twoG ftakeF (put2B x) = (x, 0) := ⟨by rw [show (put2B x).length = 96 from two_len x]; rfl, two_pos x, two_top hx, twoG_put hx⟩
theorem fr1 {a : Fp} (ha : a.ok) (h : a.v ≠ 0) : greatF (negF a) = !greatF a := great_neg ha h
theorem fr2 {a : Fp2} (ha : a.ok) (h : a.v ≠ 0) : greatF2 (negF2 a) = !greatF2 a := by rw [greatF2_eq, greatF2_eq]; exact great_neg2 ha h
theorem isz1 {a : Fp} (ha : a.ok) (h : a.v ≠ 0) : fpEq a zeroFp = false := (fpEq_nonzero ha).2 h
theorem isz2 {a : Fp2} (ha : a.ok) (h : a.v ≠ 0) : fp2Eq a zeroFp2 = false := by
  cases h2 : fp2Eq a zeroFp2 with
  | false => rfl
  | true => exact absurd ((v_eq_zero2 ha).2 ((fp2Eq_iff _ _).1 h2)) h
theorem rt1 {a : Fp} (ha : a.ok) (h : ∃ y : V1, y * y = a.v) : (sqrtF a).2 = true ∧ (sqrtF a).1.ok ∧ (sqrtF a).1.v * (sqrtF a).1.v = a.v ∧ greatF (sqrtF a).1 = false := (sqrt_law ha).1 h
theorem rt2 {a : Fp2} (ha : a.ok) (h : ∃ y : V2, y * y = a.v) : (sqrtF2 a).2 = true ∧ (sqrtF2 a).1.ok ∧ (sqrtF2 a).1.v * (sqrtF2 a).1.v = a.v ∧ greatF2 (sqrtF2 a).1 = false := by
  rcases sqrt_root2 ha with ⟨_, h0, h1, h2, h3⟩ | ⟨h1, _⟩
  · exact ⟨h0, h1, h2, by rw [greatF2_eq]; exact h3⟩
  · exact absurd h h1
theorem ng1 {a : Fp} (ha : a.ok) : (negF a).ok ∧ (negF a).v = -a.v := ⟨neg_ok' ha, v_neg ha⟩
theorem ng2 {a : Fp2} (ha : a.ok) : (negF2 a).ok ∧ (negF2 a).v = -a.v := ⟨neg_ok2 ha, v_neg2 ha⟩
theorem inj1 {a b : Fp} (ha : a.ok) (hb : b.ok) (h : a.v = b.v) : a = b := Fp.v_inj ha hb h
theorem inj2 {a b : Fp2} (ha : a.ok) (hb : b.ok) (h : a.v = b.v) : a = b := Fp2.v_inj ha hb h
theorem sq_eq {K : Type} [Fld K] {a b : K} (h : a * a = b * b) : a = b ∨ a = -b := by
  by_cases h1 : a = b
  · exact .inl h1
  · right
    have h2 : (a - b) * (a + b) = 0 := by grind
    have h3 : a - b ≠ 0 := fun e => h1 (by grind)
    have h4 := mul_eq_zero' h2
    rcases h4 with h4 | h4
    · exact absurd h4 h3
    · grind
theorem takeV_inf {P : Type} (l : List UInt8) (g : Bool) (z i : P) (c : P × Int) : takeV (l, true, g, 0) z i c = (i, 0) := rfl
theorem takeV_go {P : Type} (l : List UInt8) (g : Bool) (z i : P) (c : P × Int) : takeV (l, false, g, 0) z i c = c := rfl
theorem ff_beq : (false == false) = true := rfl
theorem ft_beq : (false == true) = false := rfl
theorem tf_beq : (true == false) = false := rfl
theorem tt_beq : (true == true) = true := rfl
theorem pair_eq {X : Type} {s : X × Bool} {y : X} (h1 : s.1 = y) (h2 : s.2 = true) : s = (y, true) := by
  obtain ⟨a, b⟩ := s
  obtain rfl : a = y := h1
  obtain rfl : b = true := h2
  rfl
theorem coreG_at {X P : Type} {xo : X × Int} {sF : X → X × Bool} {cub : X → X} {isz : X → Bool} {fin : Bool → X → X → P} {inF : P → Bool} {z : P} {high : Bool} {x s : X} {p : P} (hx : xo = (x, 0)) (hs : sF (cub x) = (s, true)) (hz : isz s = false) (hf : fin high x s = p) (hin : inF p = true) : coreG xo sF cub isz fin inF z high = (p, 0) := by
  subst hx
  unfold coreG
  simp only
  rw [hs]
  simp only
  rw [hz, hf, hin, Bool.and_false]
  rfl
theorem neg_aff1 (x y : Fp) : negG1 ⟨x, y, false⟩ = ⟨x, negF y, false⟩ := by rw [neg1_aff, negPF_eq]
theorem neg_aff2 (x y : Fp2) : negG2 ⟨x, y, false⟩ = ⟨x, negF2 y, false⟩ := by rw [neg2_aff, neg2R_eq]
theorem y_ne1 {x y : Fp} (h : (⟨x, y, false⟩ : Pg1).good) : y.v ≠ 0 := fun e => by
  have h1 : y.v * y.v = x.v * x.v * x.v + Crv.b := h.2
  rw [e] at h1
  exact Crv.no x.v (by rw [← h1]; exact CR.zero_mul _)
theorem oks1 {x y : Fp} (h : (⟨x, y, false⟩ : Pg1).good) : x.ok ∧ y.ok := by
  rcases h.1 with e | e
  · cases e
  · exact e.2
theorem negneg1 {y : Fp} (hy : y.ok) : negF (negF y) = y := by
  have h1 := ng1 hy
  have h2 := ng1 h1.1
  exact inj1 h2.1 hy (by rw [h2.2, h1.2]; grind)
theorem root_of1 {x y : Fp} (h : (⟨x, y, false⟩ : Pg1).good) : (sqrtF (cub1 x)).2 = true ∧ (sqrtF (cub1 x)).1 = cond (greatF y) (negF y) y := by
  obtain ⟨hx, hy⟩ := oks1 h
  have h0 := y_ne1 h
  have h1 : y.v * y.v = x.v * x.v * x.v + Crv.b := h.2
  obtain ⟨c1, c2⟩ := cub1_v hx
  obtain ⟨r1, r2, r3, r4⟩ := rt1 c1 ⟨y.v, by rw [h1, c2]⟩
  refine ⟨r1, ?_⟩
  rw [c2, ← h1] at r3
  have hn := ng1 hy
  rcases sq_eq r3 with e | e
  · have e := inj1 r2 hy e
    rw [e] at r4
    rw [r4, e, cond_false]
  · have e := inj1 r2 hn.1 (by rw [e, hn.2])
    rw [e, fr1 hy h0] at r4
    have r4 : greatF y = true := by
      cases hg : greatF y with
      | true => rfl
      | false => rw [hg] at r4; cases r4
    rw [r4, e, cond_true]
theorem finAt1 (g h : Bool) (x : Fp) {y : Fp} (hy : y.ok) : fin1 g x (cond h (negF y) y) = cond (g == h) ⟨x, y, false⟩ ⟨x, negF y, false⟩ := by
  unfold fin1
  cases g <;> cases h
  · rw [ff_beq, cond_true, cond_false, cond_false]
  · rw [ft_beq, cond_true, cond_false, cond_false]
  · rw [tf_beq, cond_false, cond_false, cond_true, neg_aff1]
  · rw [tt_beq, cond_true, cond_true, cond_true, neg_aff1, negneg1 hy]
theorem in_of1 {p : Pg1} (h : p.good) (hi : p.pt.mul qN = .inf) : inG1 p = true := (in1_iff _).2 ⟨h, hi⟩
theorem neg_sub1 {p : Pg1} (h : p.good) (hi : p.pt.mul qN = .inf) : (negG1 p).good ∧ (negG1 p).pt.mul qN = .inf := by
  obtain ⟨n1, n2⟩ := neg1_pt h
  exact ⟨n1, by rw [n2, neg_mul_pt h.2, hi]; rfl⟩
theorem in_cond1 {x y : Fp} (h : (⟨x, y, false⟩ : Pg1).good) (hi : (⟨x, y, false⟩ : Pg1).pt.mul qN = .inf) (c : Bool) : inG1 (cond c ⟨x, y, false⟩ ⟨x, negF y, false⟩) = true := by
  cases c
  · rw [cond_false, ← neg_aff1]
    obtain ⟨h1, h2⟩ := neg_sub1 h hi
    exact in_of1 h1 h2
  · rw [cond_true]
    exact in_of1 h hi
theorem isz_cond1 {y : Fp} (hy : y.ok) (h0 : y.v ≠ 0) (c : Bool) : fpEq (cond c (negF y) y) zeroFp = false := by
  have hn := ng1 hy
  cases c
  · rw [cond_false]
    exact isz1 hy h0
  · rw [cond_true]
    exact isz1 hn.1 fun e => h0 (by rw [hn.2] at e; grind)
theorem core_at1 {x y : Fp} (h : (⟨x, y, false⟩ : Pg1).good) (hi : (⟨x, y, false⟩ : Pg1).pt.mul qN = .inf) {l : List UInt8} (hl : ftakeF l = (x, 0)) (g : Bool) : core1 l g = (cond (g == greatF y) ⟨x, y, false⟩ ⟨x, negF y, false⟩, 0) := by
  obtain ⟨r1, r2⟩ := root_of1 h
  exact coreG_at hl (pair_eq r2 r1) (isz_cond1 (oks1 h).2 (y_ne1 h) _) (finAt1 g _ x (oks1 h).2) (in_cond1 h hi _)
theorem put1_hd {x y : Fp} (hx : x.ok) : put1F ⟨x, y, false⟩ = hdB (put1B x) (hiB (greatF y)) := by
  obtain ⟨h1, h2, h3, h4⟩ := put1B_ok hx
  rw [put1F_val]
  exact mark_hd h2 h3 _
theorem bare_inf1 : bareF inf1B 48 = (List.replicate 48 0, true, false, 0) := by decide +kernel
theorem take_inf1 : take1F inf1B = (infG1, 0) := by
  rw [take1F_val, bare_inf1]
  exact takeV_inf _ _ _ _ _
theorem read1 {p : Pg1} (hp : p.good) (hi : p.pt.mul qN = .inf) : take1F (put1F p) = (p, 0) := by
  cases hj : p.inf with
  | true =>
    obtain rfl := ok_inf1 hp.1 hj
    exact take_inf1
  | false =>
    obtain ⟨x, y, i⟩ := p
    obtain rfl : i = false := hj
    have hx := (oks1 hp).1
    obtain ⟨h1, h2, h3, h4⟩ := put1B_ok hx
    rw [put1_hd hx, take1F_val, bare_hd h1 h2 h3]
    refine (takeV_go _ _ _ _ _).trans ?_
    rw [core_at1 hp hi h4, beq_self_eq_true, cond_true]
theorem y_ne2 {x y : Fp2} (h : (⟨x, y, false⟩ : Pg2).good) : y.v ≠ 0 := fun e => by
  have h1 : y.v * y.v = x.v * x.v * x.v + Crv.b := h.2
  rw [e] at h1
  exact Crv.no x.v (by rw [← h1]; exact CR.zero_mul _)
theorem oks2 {x y : Fp2} (h : (⟨x, y, false⟩ : Pg2).good) : x.ok ∧ y.ok := by
  rcases h.1 with e | e
  · cases e
  · exact e.2
theorem negneg2 {y : Fp2} (hy : y.ok) : negF2 (negF2 y) = y := by
  have h1 := ng2 hy
  have h2 := ng2 h1.1
  exact inj2 h2.1 hy (by rw [h2.2, h1.2]; grind)
theorem root_of2 {x y : Fp2} (h : (⟨x, y, false⟩ : Pg2).good) : (sqrtF2 (cub2 x)).2 = true ∧ (sqrtF2 (cub2 x)).1 = cond (greatF2 y) (negF2 y) y := by
  obtain ⟨hx, hy⟩ := oks2 h
  have h0 := y_ne2 h
  have h1 : y.v * y.v = x.v * x.v * x.v + Crv.b := h.2
  obtain ⟨c1, c2⟩ := cub2_v hx
  obtain ⟨r1, r2, r3, r4⟩ := rt2 c1 ⟨y.v, by rw [h1, c2]⟩
  refine ⟨r1, ?_⟩
  rw [c2, ← h1] at r3
  have hn := ng2 hy
  rcases sq_eq r3 with e | e
  · have e := inj2 r2 hy e
    rw [e] at r4
    rw [r4, e, cond_false]
  · have e := inj2 r2 hn.1 (by rw [e, hn.2])
    rw [e, fr2 hy h0] at r4
    have r4 : greatF2 y = true := by
      cases hg : greatF2 y with
      | true => rfl
      | false => rw [hg] at r4; cases r4
    rw [r4, e, cond_true]
theorem finAt2 (g h : Bool) (x : Fp2) {y : Fp2} (hy : y.ok) : fin2 g x (cond h (negF2 y) y) = cond (g == h) ⟨x, y, false⟩ ⟨x, negF2 y, false⟩ := by
  unfold fin2
  cases g <;> cases h
  · rw [ff_beq, cond_true, cond_false, cond_false]
  · rw [ft_beq, cond_true, cond_false, cond_false]
  · rw [tf_beq, cond_false, cond_false, cond_true, neg_aff2]
  · rw [tt_beq, cond_true, cond_true, cond_true, neg_aff2, negneg2 hy]
theorem in_of2 {p : Pg2} (h : p.good) (hi : p.pt.mul qN = .inf) : inG2 p = true := (in2_iff _).2 ⟨h, hi⟩
theorem neg_sub2 {p : Pg2} (h : p.good) (hi : p.pt.mul qN = .inf) : (negG2 p).good ∧ (negG2 p).pt.mul qN = .inf := by
  obtain ⟨n1, n2⟩ := neg2_pt h
  exact ⟨n1, by rw [n2, neg_mul_pt h.2, hi]; rfl⟩
theorem in_cond2 {x y : Fp2} (h : (⟨x, y, false⟩ : Pg2).good) (hi : (⟨x, y, false⟩ : Pg2).pt.mul qN = .inf) (c : Bool) : inG2 (cond c ⟨x, y, false⟩ ⟨x, negF2 y, false⟩) = true := by
  cases c
  · rw [cond_false, ← neg_aff2]
    obtain ⟨h1, h2⟩ := neg_sub2 h hi
    exact in_of2 h1 h2
  · rw [cond_true]
    exact in_of2 h hi
theorem isz_cond2 {y : Fp2} (hy : y.ok) (h0 : y.v ≠ 0) (c : Bool) : fp2Eq (cond c (negF2 y) y) zeroFp2 = false := by
  have hn := ng2 hy
  cases c
  · rw [cond_false]
    exact isz2 hy h0
  · rw [cond_true]
    exact isz2 hn.1 fun e => h0 (by rw [hn.2] at e; grind)
theorem core_at2 {x y : Fp2} (h : (⟨x, y, false⟩ : Pg2).good) (hi : (⟨x, y, false⟩ : Pg2).pt.mul qN = .inf) {l : List UInt8} (hl : twoG ftakeF l = (x, 0)) (g : Bool) : core2 l g = (cond (g == greatF2 y) ⟨x, y, false⟩ ⟨x, negF2 y, false⟩, 0) := by
  obtain ⟨r1, r2⟩ := root_of2 h
  exact coreG_at hl (pair_eq r2 r1) (isz_cond2 (oks2 h).2 (y_ne2 h) _) (finAt2 g _ x (oks2 h).2) (in_cond2 h hi _)
theorem put2_hd {x y : Fp2} (hx : x.ok) : put2F ⟨x, y, false⟩ = hdB (put2B x) (hiB (greatF2 y)) := by
  obtain ⟨h1, h2, h3, h4⟩ := put2B_ok hx
  rw [put2F_val]
  exact mark_hd h2 h3 _
theorem bare_inf2 : bareF inf2B 96 = (List.replicate 96 0, true, false, 0) := by decide +kernel
theorem take_inf2 : take2F inf2B = (infG2, 0) := by
  rw [take2F_val, bare_inf2]
  exact takeV_inf _ _ _ _ _
theorem read2 {p : Pg2} (hp : p.good) (hi : p.pt.mul qN = .inf) : take2F (put2F p) = (p, 0) := by
  cases hj : p.inf with
  | true =>
    obtain rfl := ok_inf2 hp.1 hj
    exact take_inf2
  | false =>
    obtain ⟨x, y, i⟩ := p
    obtain rfl : i = false := hj
    have hx := (oks2 hp).1
    obtain ⟨h1, h2, h3, h4⟩ := put2B_ok hx
    rw [put2_hd hx, take2F_val, bare_hd h1 h2 h3]
    refine (takeV_go _ _ _ _ _).trans ?_
    rw [core_at2 hp hi h4, beq_self_eq_true, cond_true]
end Go.Proofs.YtbbnabednkopdaaGreat

set_option linter.unusedSimpArgs false
set_option linter.unusedVariables false
namespace Go.Proofs.YtbbnabednkopdaaGreat
open Go.RowKit
theorem begun10_L {g1 : Pg1} {p1 : Pg1 → List UInt8} {t1 : List UInt8 → Pg1 × Int} {g2 : Pg2} {p2 : Pg2 → List UInt8} {t2 : List UInt8 → Pg2 × Int} (h1 : t1 (p1 g1) = (g1, 0)) (h2 : t2 (p2 g2) = (g2, 0)) : (begun10_T g1 p1 t1 g2 p2 t2).outD false = true := by
  unfold begun10_T
  simp only [outD_br, outD_vc, outD_leaf, List.drop_zero, List.take_length, h1, h2, (pg1Eq_iff g1 g1).2 rfl, beq_self_eq_true, Bool.and_true, cond_true]
theorem begun10_true : begun10 = true := begun10_L (read1 gen1_good gen1_order) (read2 gen2_good gen2_order)
end Go.Proofs.YtbbnabednkopdaaGreat

set_option linter.unusedSimpArgs false
set_option linter.unusedVariables false
set_option maxRecDepth 100000
namespace Go.Proofs.YtbbnabednkopdaaGreat
open Go.RowKit
noncomputable abbrev hdC : List Code := flat (codeOf Tryz.f12)
noncomputable abbrev hdE (f0 : Bool) (f1 : List UInt8 → Pg1 × Int) (f2 : List UInt8 → Pg2 × Int) (f3 : List UInt8 → Pg1 × Int) (f4 : List UInt8 → Pg2 × Int) : Env := En [(34, K0 kBool.rs.out.res f0), (44, K1 aBs ((kRow Pg1).rs2 kInt).out.res f1), (46, K1 aBs ((kRow Pg2).rs2 kInt).out.res f2), (45, K1 aBs ((kRow Pg1).rs2 kInt).out.res f3), (47, K1 aBs ((kRow Pg2).rs2 kInt).out.res f4)]
def hdSt (top pl x : UInt8) (l c : List UInt8) : St := mkSt 131 [(0, .one (.c (.u8 top))), (1, .one (.c (.u8 pl))), (2, .one (.c (.u8 x))), (7, .one (.c (.slc 0 0 48 1 (.of 0) true))), (8, .one (.c (.slc 1 0 96 1 (.of 0) true)))] [.live ⟨true, 5, 1, .elts .u8 l, false⟩, .live ⟨true, 5, 1, .elts .u8 c, false⟩]
theorem hdh_start (f0 : Bool) (f1 : List UInt8 → Pg1 × Int) (f2 : List UInt8 → Pg2 × Int) (f3 : List UInt8 → Pg1 × Int) (f4 : List UInt8 → Pg2 × Int) (top pl x : UInt8) : segT (hdE f0 f1 f2 f3 f4) oB 300 Tryz.f12 (hdC.take 4) (startSt Tryz.f12 [.one (kU8.av top), .one (kU8.av pl), .one (kU8.av x)] []) [0, 1, 2, 7, 8] [0, 1] [(0, .as), (1, .as), (2, .as), (7, .as), (8, .as)] [.lst .u8, .lst .u8] [] =
  (.br (!(f0))
    (.leaf (.inr (some ((false, .t)))))
    (.leaf (.inl (mkSt 131 [(0, .one (.c (.u8 (top)))), (1, .one (.c (.u8 (pl)))), (2, .one (.c (.u8 (x)))), (7, .one (.c (.slc 0 0 48 1 (.of 0) true))), (8, .one (.c (.slc 1 0 96 1 (.of 0) true)))] [.live ⟨true, 5, 1, (.elts .u8 ([UInt8.ofNat 0, UInt8.ofNat 0, UInt8.ofNat 0, UInt8.ofNat 0, UInt8.ofNat 0, UInt8.ofNat 0, UInt8.ofNat 0, UInt8.ofNat 0, UInt8.ofNat 0, UInt8.ofNat 0, UInt8.ofNat 0, UInt8.ofNat 0, UInt8.ofNat 0, UInt8.ofNat 0, UInt8.ofNat 0, UInt8.ofNat 0, UInt8.ofNat 0, UInt8.ofNat 0, UInt8.ofNat 0, UInt8.ofNat 0, UInt8.ofNat 0, UInt8.ofNat 0, UInt8.ofNat 0, UInt8.ofNat 0, UInt8.ofNat 0, UInt8.ofNat 0, UInt8.ofNat 0, UInt8.ofNat 0, UInt8.ofNat 0, UInt8.ofNat 0, UInt8.ofNat 0, UInt8.ofNat 0, UInt8.ofNat 0, UInt8.ofNat 0, UInt8.ofNat 0, UInt8.ofNat 0, UInt8.ofNat 0, UInt8.ofNat 0, UInt8.ofNat 0, UInt8.ofNat 0, UInt8.ofNat 0, UInt8.ofNat 0, UInt8.ofNat 0, UInt8.ofNat 0, UInt8.ofNat 0, UInt8.ofNat 0, UInt8.ofNat 0, UInt8.ofNat 0] : List UInt8)), false⟩, .live ⟨true, 5, 1, (.elts .u8 ([UInt8.ofNat 0, UInt8.ofNat 0, UInt8.ofNat 0, UInt8.ofNat 0, UInt8.ofNat 0, UInt8.ofNat 0, UInt8.ofNat 0, UInt8.ofNat 0, UInt8.ofNat 0, UInt8.ofNat 0, UInt8.ofNat 0, UInt8.ofNat 0, UInt8.ofNat 0, UInt8.ofNat 0, UInt8.ofNat 0, UInt8.ofNat 0, UInt8.ofNat 0, UInt8.ofNat 0, UInt8.ofNat 0, UInt8.ofNat 0, UInt8.ofNat 0, UInt8.ofNat 0, UInt8.ofNat 0, UInt8.ofNat 0, UInt8.ofNat 0, UInt8.ofNat 0, UInt8.ofNat 0, UInt8.ofNat 0, UInt8.ofNat 0, UInt8.ofNat 0, UInt8.ofNat 0, UInt8.ofNat 0, UInt8.ofNat 0, UInt8.ofNat 0, UInt8.ofNat 0, UInt8.ofNat 0, UInt8.ofNat 0, UInt8.ofNat 0, UInt8.ofNat 0, UInt8.ofNat 0, UInt8.ofNat 0, UInt8.ofNat 0, UInt8.ofNat 0, UInt8.ofNat 0, UInt8.ofNat 0, UInt8.ofNat 0, UInt8.ofNat 0, UInt8.ofNat 0, UInt8.ofNat 0, UInt8.ofNat 0, UInt8.ofNat 0, UInt8.ofNat 0, UInt8.ofNat 0, UInt8.ofNat 0, UInt8.ofNat 0, UInt8.ofNat 0, UInt8.ofNat 0, UInt8.ofNat 0, UInt8.ofNat 0, UInt8.ofNat 0, UInt8.ofNat 0, UInt8.ofNat 0, UInt8.ofNat 0, UInt8.ofNat 0, UInt8.ofNat 0, UInt8.ofNat 0, UInt8.ofNat 0, UInt8.ofNat 0, UInt8.ofNat 0, UInt8.ofNat 0, UInt8.ofNat 0, UInt8.ofNat 0, UInt8.ofNat 0, UInt8.ofNat 0, UInt8.ofNat 0, UInt8.ofNat 0, UInt8.ofNat 0, UInt8.ofNat 0, UInt8.ofNat 0, UInt8.ofNat 0, UInt8.ofNat 0, UInt8.ofNat 0, UInt8.ofNat 0, UInt8.ofNat 0, UInt8.ofNat 0, UInt8.ofNat 0, UInt8.ofNat 0, UInt8.ofNat 0, UInt8.ofNat 0, UInt8.ofNat 0, UInt8.ofNat 0, UInt8.ofNat 0, UInt8.ofNat 0, UInt8.ofNat 0, UInt8.ofNat 0, UInt8.ofNat 0] : List UInt8)), false⟩])))) := by kernel_rfl
def hdr_T (f0 : Bool) (f1 : List UInt8 → Pg1 × Int) (f2 : List UInt8 → Pg2 × Int) (f3 : List UInt8 → Pg1 × Int) (f4 : List UInt8 → Pg2 × Int) (top pl x : UInt8) (l c : List UInt8) : Tree (Option ((Bool) × Pr)) :=
  (.vc (48 ≤ (List.map EK.u8.cell l).length ∧ 0 < 1)
    (.vc (0 < l.length)
      (.vc (96 ≤ (List.map EK.u8.cell c).length ∧ 0 < 1)
        (.vc (0 < c.length)
          (.vc ((0 ≤ (↑pl.toNat : Int).tmod 48 ∧ (↑pl.toNat : Int).tmod 48 < (↑48 : Int)) ∧ 48 ≤ (List.map EK.u8.cell (l.set 0 (top % UInt8.ofNat 8 * UInt8.ofNat 32))).length ∧ 0 < 1)
            (.vc (0 + ((↑pl.toNat : Int).tmod 48).toNat * 1 < (l.set 0 (top % UInt8.ofNat 8 * UInt8.ofNat 32)).length)
              (.vc ((0 ≤ (↑pl.toNat : Int).tmod 48 ∧ (↑pl.toNat : Int).tmod 48 < (↑48 : Int)) ∧ 48 ≤ (List.map EK.u8.cell (l.set 0 (top % UInt8.ofNat 8 * UInt8.ofNat 32))).length ∧ 0 < 1)
                (.vc (0 + ((↑pl.toNat : Int).tmod 48).toNat * 1 < (l.set 0 (top % UInt8.ofNat 8 * UInt8.ofNat 32)).length)
                  (.vc ((0 ≤ (↑pl.toNat : Int).tmod 48 ∧ (↑pl.toNat : Int).tmod 48 < (↑96 : Int)) ∧ 96 ≤ (List.map EK.u8.cell (c.set 0 (top % UInt8.ofNat 8 * UInt8.ofNat 32))).length ∧ 0 < 1)
                    (.vc (0 + ((↑pl.toNat : Int).tmod 48).toNat * 1 < (c.set 0 (top % UInt8.ofNat 8 * UInt8.ofNat 32)).length)
                      (.vc ((0 ≤ (↑pl.toNat : Int).tmod 48 ∧ (↑pl.toNat : Int).tmod 48 < (↑96 : Int)) ∧ 96 ≤ (List.map EK.u8.cell (c.set 0 (top % UInt8.ofNat 8 * UInt8.ofNat 32))).length ∧ 0 < 1)
                        (.vc (0 + ((↑pl.toNat : Int).tmod 48).toNat * 1 < (c.set 0 (top % UInt8.ofNat 8 * UInt8.ofNat 32)).length)
                          (.vc ((48 ≤ ((l.set 0 (top % UInt8.ofNat 8 * UInt8.ofNat 32)).set (0 + ((↑pl.toNat : Int).tmod 48).toNat * 1) ((l.set 0 (top % UInt8.ofNat 8 * UInt8.ofNat 32)).getD (0 + ((↑pl.toNat : Int).tmod 48).toNat * 1) 0 ||| x % UInt8.ofNat 32)).length ∧ 48 < 1125899906842624 ∧ 0 = 0 ∧ 1 = 1) ∧ littleB (List.take 48 (List.drop 0 ((l.set 0 (top % UInt8.ofNat 8 * UInt8.ofNat 32)).set (0 + ((↑pl.toNat : Int).tmod 48).toNat * 1) ((l.set 0 (top % UInt8.ofNat 8 * UInt8.ofNat 32)).getD (0 + ((↑pl.toNat : Int).tmod 48).toNat * 1) 0 ||| x % UInt8.ofNat 32)))))
                            (.vc ((96 ≤ ((c.set 0 (top % UInt8.ofNat 8 * UInt8.ofNat 32)).set (0 + ((↑pl.toNat : Int).tmod 48).toNat * 1) ((c.set 0 (top % UInt8.ofNat 8 * UInt8.ofNat 32)).getD (0 + ((↑pl.toNat : Int).tmod 48).toNat * 1) 0 ||| x % UInt8.ofNat 32)).length ∧ 96 < 1125899906842624 ∧ 0 = 0 ∧ 1 = 1) ∧ littleB (List.take 96 (List.drop 0 ((c.set 0 (top % UInt8.ofNat 8 * UInt8.ofNat 32)).set (0 + ((↑pl.toNat : Int).tmod 48).toNat * 1) ((c.set 0 (top % UInt8.ofNat 8 * UInt8.ofNat 32)).getD (0 + ((↑pl.toNat : Int).tmod 48).toNat * 1) 0 ||| x % UInt8.ofNat 32)))))
                              (.br (decide (top % UInt8.ofNat 8 < UInt8.ofNat 4))
                                (.br ((f1 (List.take 48 (List.drop 0 ((l.set 0 (top % UInt8.ofNat 8 * UInt8.ofNat 32)).set (0 + ((↑pl.toNat : Int).tmod 48).toNat * 1) ((l.set 0 (top % UInt8.ofNat 8 * UInt8.ofNat 32)).getD (0 + ((↑pl.toNat : Int).tmod 48).toNat * 1) 0 ||| x % UInt8.ofNat 32))))).snd == 3)
                                  (.leaf (some (((f2 (List.take 96 (List.drop 0 ((c.set 0 (top % UInt8.ofNat 8 * UInt8.ofNat 32)).set (0 + ((↑pl.toNat : Int).tmod 48).toNat * 1) ((c.set 0 (top % UInt8.ofNat 8 * UInt8.ofNat 32)).getD (0 + ((↑pl.toNat : Int).tmod 48).toNat * 1) 0 ||| x % UInt8.ofNat 32))))).snd == 3, .t))))
                                  (.leaf (some ((false, .t)))))
                                (.br (top % UInt8.ofNat 8 == UInt8.ofNat 7)
                                  (.br ((f1 (List.take 48 (List.drop 0 ((l.set 0 (top % UInt8.ofNat 8 * UInt8.ofNat 32)).set (0 + ((↑pl.toNat : Int).tmod 48).toNat * 1) ((l.set 0 (top % UInt8.ofNat 8 * UInt8.ofNat 32)).getD (0 + ((↑pl.toNat : Int).tmod 48).toNat * 1) 0 ||| x % UInt8.ofNat 32))))).snd == 3)
                                    (.leaf (some (((f2 (List.take 96 (List.drop 0 ((c.set 0 (top % UInt8.ofNat 8 * UInt8.ofNat 32)).set (0 + ((↑pl.toNat : Int).tmod 48).toNat * 1) ((c.set 0 (top % UInt8.ofNat 8 * UInt8.ofNat 32)).getD (0 + ((↑pl.toNat : Int).tmod 48).toNat * 1) 0 ||| x % UInt8.ofNat 32))))).snd == 3, .t))))
                                    (.leaf (some ((false, .t)))))
                                  (.br (top % UInt8.ofNat 8 == UInt8.ofNat 6)
                                    (.br (x % UInt8.ofNat 32 != UInt8.ofNat 0)
                                      (.br ((f1 (List.take 48 (List.drop 0 ((l.set 0 (top % UInt8.ofNat 8 * UInt8.ofNat 32)).set (0 + ((↑pl.toNat : Int).tmod 48).toNat * 1) ((l.set 0 (top % UInt8.ofNat 8 * UInt8.ofNat 32)).getD (0 + ((↑pl.toNat : Int).tmod 48).toNat * 1) 0 ||| x % UInt8.ofNat 32))))).snd == 3)
                                        (.leaf (some (((f2 (List.take 96 (List.drop 0 ((c.set 0 (top % UInt8.ofNat 8 * UInt8.ofNat 32)).set (0 + ((↑pl.toNat : Int).tmod 48).toNat * 1) ((c.set 0 (top % UInt8.ofNat 8 * UInt8.ofNat 32)).getD (0 + ((↑pl.toNat : Int).tmod 48).toNat * 1) 0 ||| x % UInt8.ofNat 32))))).snd == 3, .t))))
                                        (.leaf (some ((false, .t)))))
                                      (.br ((f1 (List.take 48 (List.drop 0 ((l.set 0 (top % UInt8.ofNat 8 * UInt8.ofNat 32)).set (0 + ((↑pl.toNat : Int).tmod 48).toNat * 1) ((l.set 0 (top % UInt8.ofNat 8 * UInt8.ofNat 32)).getD (0 + ((↑pl.toNat : Int).tmod 48).toNat * 1) 0 ||| x % UInt8.ofNat 32))))).snd == 0)
                                        (.br (pg1Eq ((f1 (List.take 48 (List.drop 0 ((l.set 0 (top % UInt8.ofNat 8 * UInt8.ofNat 32)).set (0 + ((↑pl.toNat : Int).tmod 48).toNat * 1) ((l.set 0 (top % UInt8.ofNat 8 * UInt8.ofNat 32)).getD (0 + ((↑pl.toNat : Int).tmod 48).toNat * 1) 0 ||| x % UInt8.ofNat 32))))).fst) ({ x := { l0 := UInt64.ofNat 0, l1 := UInt64.ofNat 0, l2 := UInt64.ofNat 0, l3 := UInt64.ofNat 0, l4 := UInt64.ofNat 0, l5 := UInt64.ofNat 0 }, y := { l0 := UInt64.ofNat 0, l1 := UInt64.ofNat 0, l2 := UInt64.ofNat 0, l3 := UInt64.ofNat 0, l4 := UInt64.ofNat 0, l5 := UInt64.ofNat 0 }, inf := true }))
                                          (.br ((f2 (List.take 96 (List.drop 0 ((c.set 0 (top % UInt8.ofNat 8 * UInt8.ofNat 32)).set (0 + ((↑pl.toNat : Int).tmod 48).toNat * 1) ((c.set 0 (top % UInt8.ofNat 8 * UInt8.ofNat 32)).getD (0 + ((↑pl.toNat : Int).tmod 48).toNat * 1) 0 ||| x % UInt8.ofNat 32))))).snd == 0)
                                            (.leaf (some (((f2 (List.take 96 (List.drop 0 ((c.set 0 (top % UInt8.ofNat 8 * UInt8.ofNat 32)).set (0 + ((↑pl.toNat : Int).tmod 48).toNat * 1) ((c.set 0 (top % UInt8.ofNat 8 * UInt8.ofNat 32)).getD (0 + ((↑pl.toNat : Int).tmod 48).toNat * 1) 0 ||| x % UInt8.ofNat 32))))).fst.x.c0.l0 == UInt64.ofNat 0 && ((f2 (List.take 96 (List.drop 0 ((c.set 0 (top % UInt8.ofNat 8 * UInt8.ofNat 32)).set (0 + ((↑pl.toNat : Int).tmod 48).toNat * 1) ((c.set 0 (top % UInt8.ofNat 8 * UInt8.ofNat 32)).getD (0 + ((↑pl.toNat : Int).tmod 48).toNat * 1) 0 ||| x % UInt8.ofNat 32))))).fst.x.c0.l1 == UInt64.ofNat 0 && ((f2 (List.take 96 (List.drop 0 ((c.set 0 (top % UInt8.ofNat 8 * UInt8.ofNat 32)).set (0 + ((↑pl.toNat : Int).tmod 48).toNat * 1) ((c.set 0 (top % UInt8.ofNat 8 * UInt8.ofNat 32)).getD (0 + ((↑pl.toNat : Int).tmod 48).toNat * 1) 0 ||| x % UInt8.ofNat 32))))).fst.x.c0.l2 == UInt64.ofNat 0 && ((f2 (List.take 96 (List.drop 0 ((c.set 0 (top % UInt8.ofNat 8 * UInt8.ofNat 32)).set (0 + ((↑pl.toNat : Int).tmod 48).toNat * 1) ((c.set 0 (top % UInt8.ofNat 8 * UInt8.ofNat 32)).getD (0 + ((↑pl.toNat : Int).tmod 48).toNat * 1) 0 ||| x % UInt8.ofNat 32))))).fst.x.c0.l3 == UInt64.ofNat 0 && ((f2 (List.take 96 (List.drop 0 ((c.set 0 (top % UInt8.ofNat 8 * UInt8.ofNat 32)).set (0 + ((↑pl.toNat : Int).tmod 48).toNat * 1) ((c.set 0 (top % UInt8.ofNat 8 * UInt8.ofNat 32)).getD (0 + ((↑pl.toNat : Int).tmod 48).toNat * 1) 0 ||| x % UInt8.ofNat 32))))).fst.x.c0.l4 == UInt64.ofNat 0 && ((f2 (List.take 96 (List.drop 0 ((c.set 0 (top % UInt8.ofNat 8 * UInt8.ofNat 32)).set (0 + ((↑pl.toNat : Int).tmod 48).toNat * 1) ((c.set 0 (top % UInt8.ofNat 8 * UInt8.ofNat 32)).getD (0 + ((↑pl.toNat : Int).tmod 48).toNat * 1) 0 ||| x % UInt8.ofNat 32))))).fst.x.c0.l5 == UInt64.ofNat 0 && true))))) && ((f2 (List.take 96 (List.drop 0 ((c.set 0 (top % UInt8.ofNat 8 * UInt8.ofNat 32)).set (0 + ((↑pl.toNat : Int).tmod 48).toNat * 1) ((c.set 0 (top % UInt8.ofNat 8 * UInt8.ofNat 32)).getD (0 + ((↑pl.toNat : Int).tmod 48).toNat * 1) 0 ||| x % UInt8.ofNat 32))))).fst.x.c1.l0 == UInt64.ofNat 0 && ((f2 (List.take 96 (List.drop 0 ((c.set 0 (top % UInt8.ofNat 8 * UInt8.ofNat 32)).set (0 + ((↑pl.toNat : Int).tmod 48).toNat * 1) ((c.set 0 (top % UInt8.ofNat 8 * UInt8.ofNat 32)).getD (0 + ((↑pl.toNat : Int).tmod 48).toNat * 1) 0 ||| x % UInt8.ofNat 32))))).fst.x.c1.l1 == UInt64.ofNat 0 && ((f2 (List.take 96 (List.drop 0 ((c.set 0 (top % UInt8.ofNat 8 * UInt8.ofNat 32)).set (0 + ((↑pl.toNat : Int).tmod 48).toNat * 1) ((c.set 0 (top % UInt8.ofNat 8 * UInt8.ofNat 32)).getD (0 + ((↑pl.toNat : Int).tmod 48).toNat * 1) 0 ||| x % UInt8.ofNat 32))))).fst.x.c1.l2 == UInt64.ofNat 0 && ((f2 (List.take 96 (List.drop 0 ((c.set 0 (top % UInt8.ofNat 8 * UInt8.ofNat 32)).set (0 + ((↑pl.toNat : Int).tmod 48).toNat * 1) ((c.set 0 (top % UInt8.ofNat 8 * UInt8.ofNat 32)).getD (0 + ((↑pl.toNat : Int).tmod 48).toNat * 1) 0 ||| x % UInt8.ofNat 32))))).fst.x.c1.l3 == UInt64.ofNat 0 && ((f2 (List.take 96 (List.drop 0 ((c.set 0 (top % UInt8.ofNat 8 * UInt8.ofNat 32)).set (0 + ((↑pl.toNat : Int).tmod 48).toNat * 1) ((c.set 0 (top % UInt8.ofNat 8 * UInt8.ofNat 32)).getD (0 + ((↑pl.toNat : Int).tmod 48).toNat * 1) 0 ||| x % UInt8.ofNat 32))))).fst.x.c1.l4 == UInt64.ofNat 0 && ((f2 (List.take 96 (List.drop 0 ((c.set 0 (top % UInt8.ofNat 8 * UInt8.ofNat 32)).set (0 + ((↑pl.toNat : Int).tmod 48).toNat * 1) ((c.set 0 (top % UInt8.ofNat 8 * UInt8.ofNat 32)).getD (0 + ((↑pl.toNat : Int).tmod 48).toNat * 1) 0 ||| x % UInt8.ofNat 32))))).fst.x.c1.l5 == UInt64.ofNat 0 && true))))) && true) && ((f2 (List.take 96 (List.drop 0 ((c.set 0 (top % UInt8.ofNat 8 * UInt8.ofNat 32)).set (0 + ((↑pl.toNat : Int).tmod 48).toNat * 1) ((c.set 0 (top % UInt8.ofNat 8 * UInt8.ofNat 32)).getD (0 + ((↑pl.toNat : Int).tmod 48).toNat * 1) 0 ||| x % UInt8.ofNat 32))))).fst.y.c0.l0 == UInt64.ofNat 0 && ((f2 (List.take 96 (List.drop 0 ((c.set 0 (top % UInt8.ofNat 8 * UInt8.ofNat 32)).set (0 + ((↑pl.toNat : Int).tmod 48).toNat * 1) ((c.set 0 (top % UInt8.ofNat 8 * UInt8.ofNat 32)).getD (0 + ((↑pl.toNat : Int).tmod 48).toNat * 1) 0 ||| x % UInt8.ofNat 32))))).fst.y.c0.l1 == UInt64.ofNat 0 && ((f2 (List.take 96 (List.drop 0 ((c.set 0 (top % UInt8.ofNat 8 * UInt8.ofNat 32)).set (0 + ((↑pl.toNat : Int).tmod 48).toNat * 1) ((c.set 0 (top % UInt8.ofNat 8 * UInt8.ofNat 32)).getD (0 + ((↑pl.toNat : Int).tmod 48).toNat * 1) 0 ||| x % UInt8.ofNat 32))))).fst.y.c0.l2 == UInt64.ofNat 0 && ((f2 (List.take 96 (List.drop 0 ((c.set 0 (top % UInt8.ofNat 8 * UInt8.ofNat 32)).set (0 + ((↑pl.toNat : Int).tmod 48).toNat * 1) ((c.set 0 (top % UInt8.ofNat 8 * UInt8.ofNat 32)).getD (0 + ((↑pl.toNat : Int).tmod 48).toNat * 1) 0 ||| x % UInt8.ofNat 32))))).fst.y.c0.l3 == UInt64.ofNat 0 && ((f2 (List.take 96 (List.drop 0 ((c.set 0 (top % UInt8.ofNat 8 * UInt8.ofNat 32)).set (0 + ((↑pl.toNat : Int).tmod 48).toNat * 1) ((c.set 0 (top % UInt8.ofNat 8 * UInt8.ofNat 32)).getD (0 + ((↑pl.toNat : Int).tmod 48).toNat * 1) 0 ||| x % UInt8.ofNat 32))))).fst.y.c0.l4 == UInt64.ofNat 0 && ((f2 (List.take 96 (List.drop 0 ((c.set 0 (top % UInt8.ofNat 8 * UInt8.ofNat 32)).set (0 + ((↑pl.toNat : Int).tmod 48).toNat * 1) ((c.set 0 (top % UInt8.ofNat 8 * UInt8.ofNat 32)).getD (0 + ((↑pl.toNat : Int).tmod 48).toNat * 1) 0 ||| x % UInt8.ofNat 32))))).fst.y.c0.l5 == UInt64.ofNat 0 && true))))) && ((f2 (List.take 96 (List.drop 0 ((c.set 0 (top % UInt8.ofNat 8 * UInt8.ofNat 32)).set (0 + ((↑pl.toNat : Int).tmod 48).toNat * 1) ((c.set 0 (top % UInt8.ofNat 8 * UInt8.ofNat 32)).getD (0 + ((↑pl.toNat : Int).tmod 48).toNat * 1) 0 ||| x % UInt8.ofNat 32))))).fst.y.c1.l0 == UInt64.ofNat 0 && ((f2 (List.take 96 (List.drop 0 ((c.set 0 (top % UInt8.ofNat 8 * UInt8.ofNat 32)).set (0 + ((↑pl.toNat : Int).tmod 48).toNat * 1) ((c.set 0 (top % UInt8.ofNat 8 * UInt8.ofNat 32)).getD (0 + ((↑pl.toNat : Int).tmod 48).toNat * 1) 0 ||| x % UInt8.ofNat 32))))).fst.y.c1.l1 == UInt64.ofNat 0 && ((f2 (List.take 96 (List.drop 0 ((c.set 0 (top % UInt8.ofNat 8 * UInt8.ofNat 32)).set (0 + ((↑pl.toNat : Int).tmod 48).toNat * 1) ((c.set 0 (top % UInt8.ofNat 8 * UInt8.ofNat 32)).getD (0 + ((↑pl.toNat : Int).tmod 48).toNat * 1) 0 ||| x % UInt8.ofNat 32))))).fst.y.c1.l2 == UInt64.ofNat 0 && ((f2 (List.take 96 (List.drop 0 ((c.set 0 (top % UInt8.ofNat 8 * UInt8.ofNat 32)).set (0 + ((↑pl.toNat : Int).tmod 48).toNat * 1) ((c.set 0 (top % UInt8.ofNat 8 * UInt8.ofNat 32)).getD (0 + ((↑pl.toNat : Int).tmod 48).toNat * 1) 0 ||| x % UInt8.ofNat 32))))).fst.y.c1.l3 == UInt64.ofNat 0 && ((f2 (List.take 96 (List.drop 0 ((c.set 0 (top % UInt8.ofNat 8 * UInt8.ofNat 32)).set (0 + ((↑pl.toNat : Int).tmod 48).toNat * 1) ((c.set 0 (top % UInt8.ofNat 8 * UInt8.ofNat 32)).getD (0 + ((↑pl.toNat : Int).tmod 48).toNat * 1) 0 ||| x % UInt8.ofNat 32))))).fst.y.c1.l4 == UInt64.ofNat 0 && ((f2 (List.take 96 (List.drop 0 ((c.set 0 (top % UInt8.ofNat 8 * UInt8.ofNat 32)).set (0 + ((↑pl.toNat : Int).tmod 48).toNat * 1) ((c.set 0 (top % UInt8.ofNat 8 * UInt8.ofNat 32)).getD (0 + ((↑pl.toNat : Int).tmod 48).toNat * 1) 0 ||| x % UInt8.ofNat 32))))).fst.y.c1.l5 == UInt64.ofNat 0 && true))))) && true) && ((f2 (List.take 96 (List.drop 0 ((c.set 0 (top % UInt8.ofNat 8 * UInt8.ofNat 32)).set (0 + ((↑pl.toNat : Int).tmod 48).toNat * 1) ((c.set 0 (top % UInt8.ofNat 8 * UInt8.ofNat 32)).getD (0 + ((↑pl.toNat : Int).tmod 48).toNat * 1) 0 ||| x % UInt8.ofNat 32))))).fst.inf == true && true)), .t))))
                                            (.leaf (some ((false, .t)))))
                                          (.leaf (some ((false, .t)))))
                                        (.leaf (some ((false, .t))))))
                                    (.vc ((48 ≤ ((l.set 0 (top % UInt8.ofNat 8 * UInt8.ofNat 32)).set (0 + ((↑pl.toNat : Int).tmod 48).toNat * 1) ((l.set 0 (top % UInt8.ofNat 8 * UInt8.ofNat 32)).getD (0 + ((↑pl.toNat : Int).tmod 48).toNat * 1) 0 ||| x % UInt8.ofNat 32)).length ∧ 48 < 1125899906842624 ∧ 0 = 0 ∧ 1 = 1) ∧ littleB (List.take 48 (List.drop 0 ((l.set 0 (top % UInt8.ofNat 8 * UInt8.ofNat 32)).set (0 + ((↑pl.toNat : Int).tmod 48).toNat * 1) ((l.set 0 (top % UInt8.ofNat 8 * UInt8.ofNat 32)).getD (0 + ((↑pl.toNat : Int).tmod 48).toNat * 1) 0 ||| x % UInt8.ofNat 32)))))
                                      (.vc ((96 ≤ ((c.set 0 (top % UInt8.ofNat 8 * UInt8.ofNat 32)).set (0 + ((↑pl.toNat : Int).tmod 48).toNat * 1) ((c.set 0 (top % UInt8.ofNat 8 * UInt8.ofNat 32)).getD (0 + ((↑pl.toNat : Int).tmod 48).toNat * 1) 0 ||| x % UInt8.ofNat 32)).length ∧ 96 < 1125899906842624 ∧ 0 = 0 ∧ 1 = 1) ∧ littleB (List.take 96 (List.drop 0 ((c.set 0 (top % UInt8.ofNat 8 * UInt8.ofNat 32)).set (0 + ((↑pl.toNat : Int).tmod 48).toNat * 1) ((c.set 0 (top % UInt8.ofNat 8 * UInt8.ofNat 32)).getD (0 + ((↑pl.toNat : Int).tmod 48).toNat * 1) 0 ||| x % UInt8.ofNat 32)))))
                                        (.br ((f1 (List.take 48 (List.drop 0 ((l.set 0 (top % UInt8.ofNat 8 * UInt8.ofNat 32)).set (0 + ((↑pl.toNat : Int).tmod 48).toNat * 1) ((l.set 0 (top % UInt8.ofNat 8 * UInt8.ofNat 32)).getD (0 + ((↑pl.toNat : Int).tmod 48).toNat * 1) 0 ||| x % UInt8.ofNat 32))))).snd == (f3 (List.take 48 (List.drop 0 ((l.set 0 (top % UInt8.ofNat 8 * UInt8.ofNat 32)).set (0 + ((↑pl.toNat : Int).tmod 48).toNat * 1) ((l.set 0 (top % UInt8.ofNat 8 * UInt8.ofNat 32)).getD (0 + ((↑pl.toNat : Int).tmod 48).toNat * 1) 0 ||| x % UInt8.ofNat 32))))).snd)
                                          (.br (pg1Eq ((f1 (List.take 48 (List.drop 0 ((l.set 0 (top % UInt8.ofNat 8 * UInt8.ofNat 32)).set (0 + ((↑pl.toNat : Int).tmod 48).toNat * 1) ((l.set 0 (top % UInt8.ofNat 8 * UInt8.ofNat 32)).getD (0 + ((↑pl.toNat : Int).tmod 48).toNat * 1) 0 ||| x % UInt8.ofNat 32))))).fst) ((f3 (List.take 48 (List.drop 0 ((l.set 0 (top % UInt8.ofNat 8 * UInt8.ofNat 32)).set (0 + ((↑pl.toNat : Int).tmod 48).toNat * 1) ((l.set 0 (top % UInt8.ofNat 8 * UInt8.ofNat 32)).getD (0 + ((↑pl.toNat : Int).tmod 48).toNat * 1) 0 ||| x % UInt8.ofNat 32))))).fst))
                                            (.br ((f2 (List.take 96 (List.drop 0 ((c.set 0 (top % UInt8.ofNat 8 * UInt8.ofNat 32)).set (0 + ((↑pl.toNat : Int).tmod 48).toNat * 1) ((c.set 0 (top % UInt8.ofNat 8 * UInt8.ofNat 32)).getD (0 + ((↑pl.toNat : Int).tmod 48).toNat * 1) 0 ||| x % UInt8.ofNat 32))))).snd == (f4 (List.take 96 (List.drop 0 ((c.set 0 (top % UInt8.ofNat 8 * UInt8.ofNat 32)).set (0 + ((↑pl.toNat : Int).tmod 48).toNat * 1) ((c.set 0 (top % UInt8.ofNat 8 * UInt8.ofNat 32)).getD (0 + ((↑pl.toNat : Int).tmod 48).toNat * 1) 0 ||| x % UInt8.ofNat 32))))).snd)
                                              (.leaf (some (((f2 (List.take 96 (List.drop 0 ((c.set 0 (top % UInt8.ofNat 8 * UInt8.ofNat 32)).set (0 + ((↑pl.toNat : Int).tmod 48).toNat * 1) ((c.set 0 (top % UInt8.ofNat 8 * UInt8.ofNat 32)).getD (0 + ((↑pl.toNat : Int).tmod 48).toNat * 1) 0 ||| x % UInt8.ofNat 32))))).fst.x.c0.l0 == (f4 (List.take 96 (List.drop 0 ((c.set 0 (top % UInt8.ofNat 8 * UInt8.ofNat 32)).set (0 + ((↑pl.toNat : Int).tmod 48).toNat * 1) ((c.set 0 (top % UInt8.ofNat 8 * UInt8.ofNat 32)).getD (0 + ((↑pl.toNat : Int).tmod 48).toNat * 1) 0 ||| x % UInt8.ofNat 32))))).fst.x.c0.l0 && ((f2 (List.take 96 (List.drop 0 ((c.set 0 (top % UInt8.ofNat 8 * UInt8.ofNat 32)).set (0 + ((↑pl.toNat : Int).tmod 48).toNat * 1) ((c.set 0 (top % UInt8.ofNat 8 * UInt8.ofNat 32)).getD (0 + ((↑pl.toNat : Int).tmod 48).toNat * 1) 0 ||| x % UInt8.ofNat 32))))).fst.x.c0.l1 == (f4 (List.take 96 (List.drop 0 ((c.set 0 (top % UInt8.ofNat 8 * UInt8.ofNat 32)).set (0 + ((↑pl.toNat : Int).tmod 48).toNat * 1) ((c.set 0 (top % UInt8.ofNat 8 * UInt8.ofNat 32)).getD (0 + ((↑pl.toNat : Int).tmod 48).toNat * 1) 0 ||| x % UInt8.ofNat 32))))).fst.x.c0.l1 && ((f2 (List.take 96 (List.drop 0 ((c.set 0 (top % UInt8.ofNat 8 * UInt8.ofNat 32)).set (0 + ((↑pl.toNat : Int).tmod 48).toNat * 1) ((c.set 0 (top % UInt8.ofNat 8 * UInt8.ofNat 32)).getD (0 + ((↑pl.toNat : Int).tmod 48).toNat * 1) 0 ||| x % UInt8.ofNat 32))))).fst.x.c0.l2 == (f4 (List.take 96 (List.drop 0 ((c.set 0 (top % UInt8.ofNat 8 * UInt8.ofNat 32)).set (0 + ((↑pl.toNat : Int).tmod 48).toNat * 1) ((c.set 0 (top % UInt8.ofNat 8 * UInt8.ofNat 32)).getD (0 + ((↑pl.toNat : Int).tmod 48).toNat * 1) 0 ||| x % UInt8.ofNat 32))))).fst.x.c0.l2 && ((f2 (List.take 96 (List.drop 0 ((c.set 0 (top % UInt8.ofNat 8 * UInt8.ofNat 32)).set (0 + ((↑pl.toNat : Int).tmod 48).toNat * 1) ((c.set 0 (top % UInt8.ofNat 8 * UInt8.ofNat 32)).getD (0 + ((↑pl.toNat : Int).tmod 48).toNat * 1) 0 ||| x % UInt8.ofNat 32))))).fst.x.c0.l3 == (f4 (List.take 96 (List.drop 0 ((c.set 0 (top % UInt8.ofNat 8 * UInt8.ofNat 32)).set (0 + ((↑pl.toNat : Int).tmod 48).toNat * 1) ((c.set 0 (top % UInt8.ofNat 8 * UInt8.ofNat 32)).getD (0 + ((↑pl.toNat : Int).tmod 48).toNat * 1) 0 ||| x % UInt8.ofNat 32))))).fst.x.c0.l3 && ((f2 (List.take 96 (List.drop 0 ((c.set 0 (top % UInt8.ofNat 8 * UInt8.ofNat 32)).set (0 + ((↑pl.toNat : Int).tmod 48).toNat * 1) ((c.set 0 (top % UInt8.ofNat 8 * UInt8.ofNat 32)).getD (0 + ((↑pl.toNat : Int).tmod 48).toNat * 1) 0 ||| x % UInt8.ofNat 32))))).fst.x.c0.l4 == (f4 (List.take 96 (List.drop 0 ((c.set 0 (top % UInt8.ofNat 8 * UInt8.ofNat 32)).set (0 + ((↑pl.toNat : Int).tmod 48).toNat * 1) ((c.set 0 (top % UInt8.ofNat 8 * UInt8.ofNat 32)).getD (0 + ((↑pl.toNat : Int).tmod 48).toNat * 1) 0 ||| x % UInt8.ofNat 32))))).fst.x.c0.l4 && ((f2 (List.take 96 (List.drop 0 ((c.set 0 (top % UInt8.ofNat 8 * UInt8.ofNat 32)).set (0 + ((↑pl.toNat : Int).tmod 48).toNat * 1) ((c.set 0 (top % UInt8.ofNat 8 * UInt8.ofNat 32)).getD (0 + ((↑pl.toNat : Int).tmod 48).toNat * 1) 0 ||| x % UInt8.ofNat 32))))).fst.x.c0.l5 == (f4 (List.take 96 (List.drop 0 ((c.set 0 (top % UInt8.ofNat 8 * UInt8.ofNat 32)).set (0 + ((↑pl.toNat : Int).tmod 48).toNat * 1) ((c.set 0 (top % UInt8.ofNat 8 * UInt8.ofNat 32)).getD (0 + ((↑pl.toNat : Int).tmod 48).toNat * 1) 0 ||| x % UInt8.ofNat 32))))).fst.x.c0.l5 && true))))) && ((f2 (List.take 96 (List.drop 0 ((c.set 0 (top % UInt8.ofNat 8 * UInt8.ofNat 32)).set (0 + ((↑pl.toNat : Int).tmod 48).toNat * 1) ((c.set 0 (top % UInt8.ofNat 8 * UInt8.ofNat 32)).getD (0 + ((↑pl.toNat : Int).tmod 48).toNat * 1) 0 ||| x % UInt8.ofNat 32))))).fst.x.c1.l0 == (f4 (List.take 96 (List.drop 0 ((c.set 0 (top % UInt8.ofNat 8 * UInt8.ofNat 32)).set (0 + ((↑pl.toNat : Int).tmod 48).toNat * 1) ((c.set 0 (top % UInt8.ofNat 8 * UInt8.ofNat 32)).getD (0 + ((↑pl.toNat : Int).tmod 48).toNat * 1) 0 ||| x % UInt8.ofNat 32))))).fst.x.c1.l0 && ((f2 (List.take 96 (List.drop 0 ((c.set 0 (top % UInt8.ofNat 8 * UInt8.ofNat 32)).set (0 + ((↑pl.toNat : Int).tmod 48).toNat * 1) ((c.set 0 (top % UInt8.ofNat 8 * UInt8.ofNat 32)).getD (0 + ((↑pl.toNat : Int).tmod 48).toNat * 1) 0 ||| x % UInt8.ofNat 32))))).fst.x.c1.l1 == (f4 (List.take 96 (List.drop 0 ((c.set 0 (top % UInt8.ofNat 8 * UInt8.ofNat 32)).set (0 + ((↑pl.toNat : Int).tmod 48).toNat * 1) ((c.set 0 (top % UInt8.ofNat 8 * UInt8.ofNat 32)).getD (0 + ((↑pl.toNat : Int).tmod 48).toNat * 1) 0 ||| x % UInt8.ofNat 32))))).fst.x.c1.l1 && ((f2 (List.take 96 (List.drop 0 ((c.set 0 (top % UInt8.ofNat 8 * UInt8.ofNat 32)).set (0 + ((↑pl.toNat : Int).tmod 48).toNat * 1) ((c.set 0 (top % UInt8.ofNat 8 * UInt8.ofNat 32)).getD (0 + ((↑pl.toNat : Int).tmod 48).toNat * 1) 0 ||| x % UInt8.ofNat 32))))).fst.x.c1.l2 == (f4 (List.take 96 (List.drop 0 ((c.set 0 (top % UInt8.ofNat 8 * UInt8.ofNat 32)).set (0 + ((↑pl.toNat : Int).tmod 48).toNat * 1) ((c.set 0 (top % UInt8.ofNat 8 * UInt8.ofNat 32)).getD (0 + ((↑pl.toNat : Int).tmod 48).toNat * 1) 0 ||| x % UInt8.ofNat 32))))).fst.x.c1.l2 && ((f2 (List.take 96 (List.drop 0 ((c.set 0 (top % UInt8.ofNat 8 * UInt8.ofNat 32)).set (0 + ((↑pl.toNat : Int).tmod 48).toNat * 1) ((c.set 0 (top % UInt8.ofNat 8 * UInt8.ofNat 32)).getD (0 + ((↑pl.toNat : Int).tmod 48).toNat * 1) 0 ||| x % UInt8.ofNat 32))))).fst.x.c1.l3 == (f4 (List.take 96 (List.drop 0 ((c.set 0 (top % UInt8.ofNat 8 * UInt8.ofNat 32)).set (0 + ((↑pl.toNat : Int).tmod 48).toNat * 1) ((c.set 0 (top % UInt8.ofNat 8 * UInt8.ofNat 32)).getD (0 + ((↑pl.toNat : Int).tmod 48).toNat * 1) 0 ||| x % UInt8.ofNat 32))))).fst.x.c1.l3 && ((f2 (List.take 96 (List.drop 0 ((c.set 0 (top % UInt8.ofNat 8 * UInt8.ofNat 32)).set (0 + ((↑pl.toNat : Int).tmod 48).toNat * 1) ((c.set 0 (top % UInt8.ofNat 8 * UInt8.ofNat 32)).getD (0 + ((↑pl.toNat : Int).tmod 48).toNat * 1) 0 ||| x % UInt8.ofNat 32))))).fst.x.c1.l4 == (f4 (List.take 96 (List.drop 0 ((c.set 0 (top % UInt8.ofNat 8 * UInt8.ofNat 32)).set (0 + ((↑pl.toNat : Int).tmod 48).toNat * 1) ((c.set 0 (top % UInt8.ofNat 8 * UInt8.ofNat 32)).getD (0 + ((↑pl.toNat : Int).tmod 48).toNat * 1) 0 ||| x % UInt8.ofNat 32))))).fst.x.c1.l4 && ((f2 (List.take 96 (List.drop 0 ((c.set 0 (top % UInt8.ofNat 8 * UInt8.ofNat 32)).set (0 + ((↑pl.toNat : Int).tmod 48).toNat * 1) ((c.set 0 (top % UInt8.ofNat 8 * UInt8.ofNat 32)).getD (0 + ((↑pl.toNat : Int).tmod 48).toNat * 1) 0 ||| x % UInt8.ofNat 32))))).fst.x.c1.l5 == (f4 (List.take 96 (List.drop 0 ((c.set 0 (top % UInt8.ofNat 8 * UInt8.ofNat 32)).set (0 + ((↑pl.toNat : Int).tmod 48).toNat * 1) ((c.set 0 (top % UInt8.ofNat 8 * UInt8.ofNat 32)).getD (0 + ((↑pl.toNat : Int).tmod 48).toNat * 1) 0 ||| x % UInt8.ofNat 32))))).fst.x.c1.l5 && true))))) && true) && ((f2 (List.take 96 (List.drop 0 ((c.set 0 (top % UInt8.ofNat 8 * UInt8.ofNat 32)).set (0 + ((↑pl.toNat : Int).tmod 48).toNat * 1) ((c.set 0 (top % UInt8.ofNat 8 * UInt8.ofNat 32)).getD (0 + ((↑pl.toNat : Int).tmod 48).toNat * 1) 0 ||| x % UInt8.ofNat 32))))).fst.y.c0.l0 == (f4 (List.take 96 (List.drop 0 ((c.set 0 (top % UInt8.ofNat 8 * UInt8.ofNat 32)).set (0 + ((↑pl.toNat : Int).tmod 48).toNat * 1) ((c.set 0 (top % UInt8.ofNat 8 * UInt8.ofNat 32)).getD (0 + ((↑pl.toNat : Int).tmod 48).toNat * 1) 0 ||| x % UInt8.ofNat 32))))).fst.y.c0.l0 && ((f2 (List.take 96 (List.drop 0 ((c.set 0 (top % UInt8.ofNat 8 * UInt8.ofNat 32)).set (0 + ((↑pl.toNat : Int).tmod 48).toNat * 1) ((c.set 0 (top % UInt8.ofNat 8 * UInt8.ofNat 32)).getD (0 + ((↑pl.toNat : Int).tmod 48).toNat * 1) 0 ||| x % UInt8.ofNat 32))))).fst.y.c0.l1 == (f4 (List.take 96 (List.drop 0 ((c.set 0 (top % UInt8.ofNat 8 * UInt8.ofNat 32)).set (0 + ((↑pl.toNat : Int).tmod 48).toNat * 1) ((c.set 0 (top % UInt8.ofNat 8 * UInt8.ofNat 32)).getD (0 + ((↑pl.toNat : Int).tmod 48).toNat * 1) 0 ||| x % UInt8.ofNat 32))))).fst.y.c0.l1 && ((f2 (List.take 96 (List.drop 0 ((c.set 0 (top % UInt8.ofNat 8 * UInt8.ofNat 32)).set (0 + ((↑pl.toNat : Int).tmod 48).toNat * 1) ((c.set 0 (top % UInt8.ofNat 8 * UInt8.ofNat 32)).getD (0 + ((↑pl.toNat : Int).tmod 48).toNat * 1) 0 ||| x % UInt8.ofNat 32))))).fst.y.c0.l2 == (f4 (List.take 96 (List.drop 0 ((c.set 0 (top % UInt8.ofNat 8 * UInt8.ofNat 32)).set (0 + ((↑pl.toNat : Int).tmod 48).toNat * 1) ((c.set 0 (top % UInt8.ofNat 8 * UInt8.ofNat 32)).getD (0 + ((↑pl.toNat : Int).tmod 48).toNat * 1) 0 ||| x % UInt8.ofNat 32))))).fst.y.c0.l2 && ((f2 (List.take 96 (List.drop 0 ((c.set 0 (top % UInt8.ofNat 8 * UInt8.ofNat 32)).set (0 + ((↑pl.toNat : Int).tmod 48).toNat * 1) ((c.set 0 (top % UInt8.ofNat 8 * UInt8.ofNat 32)).getD (0 + ((↑pl.toNat : Int).tmod 48).toNat * 1) 0 ||| x % UInt8.ofNat 32))))).fst.y.c0.l3 == (f4 (List.take 96 (List.drop 0 ((c.set 0 (top % UInt8.ofNat 8 * UInt8.ofNat 32)).set (0 + ((↑pl.toNat : Int).tmod 48).toNat * 1) ((c.set 0 (top % UInt8.ofNat 8 * UInt8.ofNat 32)).getD (0 + ((↑pl.toNat : Int).tmod 48).toNat * 1) 0 ||| x % UInt8.ofNat 32))))).fst.y.c0.l3 && ((f2 (List.take 96 (List.drop 0 ((c.set 0 (top % UInt8.ofNat 8 * UInt8.ofNat 32)).set (0 + ((↑pl.toNat : Int).tmod 48).toNat * 1) ((c.set 0 (top % UInt8.ofNat 8 * UInt8.ofNat 32)).getD (0 + ((↑pl.toNat : Int).tmod 48).toNat * 1) 0 ||| x % UInt8.ofNat 32))))).fst.y.c0.l4 == (f4 (List.take 96 (List.drop 0 ((c.set 0 (top % UInt8.ofNat 8 * UInt8.ofNat 32)).set (0 + ((↑pl.toNat : Int).tmod 48).toNat * 1) ((c.set 0 (top % UInt8.ofNat 8 * UInt8.ofNat 32)).getD (0 + ((↑pl.toNat : Int).tmod 48).toNat * 1) 0 ||| x % UInt8.ofNat 32))))).fst.y.c0.l4 && ((f2 (List.take 96 (List.drop 0 ((c.set 0 (top % UInt8.ofNat 8 * UInt8.ofNat 32)).set (0 + ((↑pl.toNat : Int).tmod 48).toNat * 1) ((c.set 0 (top % UInt8.ofNat 8 * UInt8.ofNat 32)).getD (0 + ((↑pl.toNat : Int).tmod 48).toNat * 1) 0 ||| x % UInt8.ofNat 32))))).fst.y.c0.l5 == (f4 (List.take 96 (List.drop 0 ((c.set 0 (top % UInt8.ofNat 8 * UInt8.ofNat 32)).set (0 + ((↑pl.toNat : Int).tmod 48).toNat * 1) ((c.set 0 (top % UInt8.ofNat 8 * UInt8.ofNat 32)).getD (0 + ((↑pl.toNat : Int).tmod 48).toNat * 1) 0 ||| x % UInt8.ofNat 32))))).fst.y.c0.l5 && true))))) && ((f2 (List.take 96 (List.drop 0 ((c.set 0 (top % UInt8.ofNat 8 * UInt8.ofNat 32)).set (0 + ((↑pl.toNat : Int).tmod 48).toNat * 1) ((c.set 0 (top % UInt8.ofNat 8 * UInt8.ofNat 32)).getD (0 + ((↑pl.toNat : Int).tmod 48).toNat * 1) 0 ||| x % UInt8.ofNat 32))))).fst.y.c1.l0 == (f4 (List.take 96 (List.drop 0 ((c.set 0 (top % UInt8.ofNat 8 * UInt8.ofNat 32)).set (0 + ((↑pl.toNat : Int).tmod 48).toNat * 1) ((c.set 0 (top % UInt8.ofNat 8 * UInt8.ofNat 32)).getD (0 + ((↑pl.toNat : Int).tmod 48).toNat * 1) 0 ||| x % UInt8.ofNat 32))))).fst.y.c1.l0 && ((f2 (List.take 96 (List.drop 0 ((c.set 0 (top % UInt8.ofNat 8 * UInt8.ofNat 32)).set (0 + ((↑pl.toNat : Int).tmod 48).toNat * 1) ((c.set 0 (top % UInt8.ofNat 8 * UInt8.ofNat 32)).getD (0 + ((↑pl.toNat : Int).tmod 48).toNat * 1) 0 ||| x % UInt8.ofNat 32))))).fst.y.c1.l1 == (f4 (List.take 96 (List.drop 0 ((c.set 0 (top % UInt8.ofNat 8 * UInt8.ofNat 32)).set (0 + ((↑pl.toNat : Int).tmod 48).toNat * 1) ((c.set 0 (top % UInt8.ofNat 8 * UInt8.ofNat 32)).getD (0 + ((↑pl.toNat : Int).tmod 48).toNat * 1) 0 ||| x % UInt8.ofNat 32))))).fst.y.c1.l1 && ((f2 (List.take 96 (List.drop 0 ((c.set 0 (top % UInt8.ofNat 8 * UInt8.ofNat 32)).set (0 + ((↑pl.toNat : Int).tmod 48).toNat * 1) ((c.set 0 (top % UInt8.ofNat 8 * UInt8.ofNat 32)).getD (0 + ((↑pl.toNat : Int).tmod 48).toNat * 1) 0 ||| x % UInt8.ofNat 32))))).fst.y.c1.l2 == (f4 (List.take 96 (List.drop 0 ((c.set 0 (top % UInt8.ofNat 8 * UInt8.ofNat 32)).set (0 + ((↑pl.toNat : Int).tmod 48).toNat * 1) ((c.set 0 (top % UInt8.ofNat 8 * UInt8.ofNat 32)).getD (0 + ((↑pl.toNat : Int).tmod 48).toNat * 1) 0 ||| x % UInt8.ofNat 32))))).fst.y.c1.l2 && ((f2 (List.take 96 (List.drop 0 ((c.set 0 (top % UInt8.ofNat 8 * UInt8.ofNat 32)).set (0 + ((↑pl.toNat : Int).tmod 48).toNat * 1) ((c.set 0 (top % UInt8.ofNat 8 * UInt8.ofNat 32)).getD (0 + ((↑pl.toNat : Int).tmod 48).toNat * 1) 0 ||| x % UInt8.ofNat 32))))).fst.y.c1.l3 == (f4 (List.take 96 (List.drop 0 ((c.set 0 (top % UInt8.ofNat 8 * UInt8.ofNat 32)).set (0 + ((↑pl.toNat : Int).tmod 48).toNat * 1) ((c.set 0 (top % UInt8.ofNat 8 * UInt8.ofNat 32)).getD (0 + ((↑pl.toNat : Int).tmod 48).toNat * 1) 0 ||| x % UInt8.ofNat 32))))).fst.y.c1.l3 && ((f2 (List.take 96 (List.drop 0 ((c.set 0 (top % UInt8.ofNat 8 * UInt8.ofNat 32)).set (0 + ((↑pl.toNat : Int).tmod 48).toNat * 1) ((c.set 0 (top % UInt8.ofNat 8 * UInt8.ofNat 32)).getD (0 + ((↑pl.toNat : Int).tmod 48).toNat * 1) 0 ||| x % UInt8.ofNat 32))))).fst.y.c1.l4 == (f4 (List.take 96 (List.drop 0 ((c.set 0 (top % UInt8.ofNat 8 * UInt8.ofNat 32)).set (0 + ((↑pl.toNat : Int).tmod 48).toNat * 1) ((c.set 0 (top % UInt8.ofNat 8 * UInt8.ofNat 32)).getD (0 + ((↑pl.toNat : Int).tmod 48).toNat * 1) 0 ||| x % UInt8.ofNat 32))))).fst.y.c1.l4 && ((f2 (List.take 96 (List.drop 0 ((c.set 0 (top % UInt8.ofNat 8 * UInt8.ofNat 32)).set (0 + ((↑pl.toNat : Int).tmod 48).toNat * 1) ((c.set 0 (top % UInt8.ofNat 8 * UInt8.ofNat 32)).getD (0 + ((↑pl.toNat : Int).tmod 48).toNat * 1) 0 ||| x % UInt8.ofNat 32))))).fst.y.c1.l5 == (f4 (List.take 96 (List.drop 0 ((c.set 0 (top % UInt8.ofNat 8 * UInt8.ofNat 32)).set (0 + ((↑pl.toNat : Int).tmod 48).toNat * 1) ((c.set 0 (top % UInt8.ofNat 8 * UInt8.ofNat 32)).getD (0 + ((↑pl.toNat : Int).tmod 48).toNat * 1) 0 ||| x % UInt8.ofNat 32))))).fst.y.c1.l5 && true))))) && true) && ((f2 (List.take 96 (List.drop 0 ((c.set 0 (top % UInt8.ofNat 8 * UInt8.ofNat 32)).set (0 + ((↑pl.toNat : Int).tmod 48).toNat * 1) ((c.set 0 (top % UInt8.ofNat 8 * UInt8.ofNat 32)).getD (0 + ((↑pl.toNat : Int).tmod 48).toNat * 1) 0 ||| x % UInt8.ofNat 32))))).fst.inf == (f4 (List.take 96 (List.drop 0 ((c.set 0 (top % UInt8.ofNat 8 * UInt8.ofNat 32)).set (0 + ((↑pl.toNat : Int).tmod 48).toNat * 1) ((c.set 0 (top % UInt8.ofNat 8 * UInt8.ofNat 32)).getD (0 + ((↑pl.toNat : Int).tmod 48).toNat * 1) 0 ||| x % UInt8.ofNat 32))))).fst.inf && true)), .t))))
                                              (.leaf (some ((false, .t)))))
                                            (.leaf (some ((false, .t)))))
                                          (.leaf (some ((false, .t))))))))))))))))))))))))
theorem hdr_run (f0 : Bool) (f1 : List UInt8 → Pg1 × Int) (f2 : List UInt8 → Pg2 × Int) (f3 : List UInt8 → Pg1 × Int) (f4 : List UInt8 → Pg2 × Int) (top pl x : UInt8) (l c : List UInt8) : endT (hdE f0 f1 f2 f3 f4) oB 300 Tryz.f12 (hdC.drop 4) (hdSt top pl x l c) = hdr_T f0 f1 f2 f3 f4 top pl x l c := by kernel_rfl
end Go.Proofs.YtbbnabednkopdaaGreat

set_option linter.unusedSimpArgs false
set_option linter.unusedVariables false
set_option linter.unusedSectionVars false
set_option maxRecDepth 100000
namespace Go.Proofs.YtbbnabednkopdaaGreat
open Go.RowKit
theorem bare_3 {L : List UInt8} {n : Int} (hn : (L.length : Int) = n) (h : bit7 L = true ∨ (bit6 L = true ∧ (bit5 L = true ∨ zeroTo (bareL L) L.length = false))) : (bareF L n).2.2.2 = 3 := by
  unfold bareF
  rw [decide_eq_false (by omega : ¬ (L.length : Int) < n), decide_eq_false (by omega : ¬ (L.length : Int) > n)]
  rcases h with h | ⟨h, k | k⟩
  · rw [h]; rfl
  · rw [h, k]; cases bit7 L <;> rfl
  · rw [h, k]; cases bit7 L <;> cases bit5 L <;> rfl
theorem bare_i {L : List UInt8} {n : Int} (hn : (L.length : Int) = n) (h7 : bit7 L = false) (h6 : bit6 L = true) (h5 : bit5 L = false) (hz : zeroTo (bareL L) L.length = true) : (bareF L n).2.2.2 = 0 ∧ (bareF L n).2.1 = true := by
  unfold bareF
  rw [decide_eq_false (by omega : ¬ (L.length : Int) < n), decide_eq_false (by omega : ¬ (L.length : Int) > n), h7, h6, h5, hz]
  exact ⟨rfl, rfl⟩
theorem takeV_3 {P : Type} {r : List UInt8 × Bool × Bool × Int} {z i : P} {c : P × Int} (h : r.2.2.2 = 3) : (takeV r z i c).2 = 3 := by
  unfold takeV
  rw [h]
  rfl
theorem takeV_i {P : Type} {r : List UInt8 × Bool × Bool × Int} {z i : P} {c : P × Int} (h : r.2.2.2 = 0) (h2 : r.2.1 = true) : takeV r z i c = (i, 0) := by
  unfold takeV
  rw [h, h2]
  rfl
def hdL (l : List UInt8) (h : UInt8) (i : Nat) (y : UInt8) : List UInt8 := (l.set 0 h).set i ((l.set 0 h).getD i 0 ||| y)
theorem hdL_len (l : List UInt8) (h : UInt8) (i : Nat) (y : UInt8) : (hdL l h i y).length = l.length := by unfold hdL; rw [List.length_set, List.length_set]
def hdP (t x : UInt8) : Bool := (((t % UInt8.ofNat 8 * UInt8.ofNat 32 ||| x % UInt8.ofNat 32) &&& UInt8.ofNat 128 == UInt8.ofNat 0) == decide (t % UInt8.ofNat 8 < UInt8.ofNat 4)) && (!(t % UInt8.ofNat 8 == UInt8.ofNat 7) || (((t % UInt8.ofNat 8 * UInt8.ofNat 32 ||| x % UInt8.ofNat 32) &&& UInt8.ofNat 64 != UInt8.ofNat 0) && ((t % UInt8.ofNat 8 * UInt8.ofNat 32 ||| x % UInt8.ofNat 32) &&& UInt8.ofNat 32 != UInt8.ofNat 0))) && (!(t % UInt8.ofNat 8 == UInt8.ofNat 6) || (((t % UInt8.ofNat 8 * UInt8.ofNat 32 ||| x % UInt8.ofNat 32) &&& UInt8.ofNat 64 != UInt8.ofNat 0) && !((t % UInt8.ofNat 8 * UInt8.ofNat 32 ||| x % UInt8.ofNat 32) &&& UInt8.ofNat 32 != UInt8.ofNat 0))) && (((t % UInt8.ofNat 8 * UInt8.ofNat 32 ||| x % UInt8.ofNat 32) &&& ~~~(UInt8.ofNat 224)) == x % UInt8.ofNat 32)
theorem hdP_all (t x : UInt8) : hdP t x = true := u8_all2 (p := hdP) (by decide +kernel) t x
theorem hd_zero (t : UInt8) : (t % UInt8.ofNat 8 * UInt8.ofNat 32 ||| (0 : UInt8) % UInt8.ofNat 32) = t % UInt8.ofNat 8 * UInt8.ofNat 32 := eq_of_beq (u8_all (p := fun t => (t % UInt8.ofNat 8 * UInt8.ofNat 32 ||| (0 : UInt8) % UInt8.ofNat 32) == t % UInt8.ofNat 8 * UInt8.ofNat 32) (by decide +kernel) t)
theorem or_zero (y : UInt8) : (0 : UInt8) ||| y = y := eq_of_beq (u8_all (p := fun y => ((0 : UInt8) ||| y) == y) (by decide +kernel) y)
theorem hd_get {l : List UInt8} (h0 : 0 < l.length) (t x : UInt8) (i : Nat) : ∃ z : UInt8, (hdL l (t % UInt8.ofNat 8 * UInt8.ofNat 32) i (x % UInt8.ofNat 32)).getD 0 0 = (t % UInt8.ofNat 8 * UInt8.ofNat 32 ||| z % UInt8.ofNat 32) ∧ (i = 0 → z = x) ∧ (i ≠ 0 → z = 0) := by
  cases i with
  | zero =>
    refine ⟨x, ?_, fun _ => rfl, fun e => absurd rfl e⟩
    unfold hdL
    rw [getD_hd _ (by rw [List.length_set]; exact h0), getD_hd _ h0]
  | succ j =>
    refine ⟨0, ?_, fun e => absurd e (Nat.succ_ne_zero j), fun _ => rfl⟩
    rw [hd_zero]
    unfold hdL
    cases l with
    | nil => cases h0
    | cons a l => rfl
theorem zeroTo_all {l : List UInt8} : ∀ n, (∀ i, i < n → l.getD i 0 = 0) → zeroTo l n = true
  | 0, _ => rfl
  | n + 1, h => by
    unfold zeroTo
    rw [zeroTo_all n fun i hi => h i (Nat.lt_succ_of_lt hi), h n (Nat.lt_succ_self n)]
    rfl
theorem zeroTo_at {l : List UInt8} : ∀ {n : Nat}, zeroTo l n = true → ∀ i, i < n → l.getD i 0 = 0
  | 0, _, i, hi => absurd hi (Nat.not_lt_zero i)
  | n + 1, h, i, hi => by
    unfold zeroTo at h
    rw [Bool.and_eq_true] at h
    rcases Nat.lt_succ_iff_lt_or_eq.1 hi with h1 | h1
    · exact zeroTo_at h.1 i h1
    · rw [h1]; exact eq_of_beq h.2
theorem getD_set_self {l : List UInt8} {i : Nat} (h : i < l.length) (v : UInt8) : (l.set i v).getD i 0 = v := by
  rw [List.getD_eq_getElem?_getD, List.getElem?_set_self h]
  rfl
theorem getD_set_other {l : List UInt8} {i j : Nat} (h : i ≠ j) (v : UInt8) : (l.set i v).getD j 0 = l.getD j 0 := by
  rw [List.getD_eq_getElem?_getD, List.getElem?_set_ne h, List.getD_eq_getElem?_getD]
theorem rep_get (n j : Nat) : (List.replicate n (0 : UInt8)).getD j 0 = 0 := by
  rw [List.getD_eq_getElem?_getD, List.getElem?_replicate]
  split <;> rfl
theorem bare_get {n : Nat} (h0 : 0 < n) {i : Nat} (hi : i < n) (t x : UInt8) (j : Nat) : (bareL (hdL (List.replicate n 0) (t % UInt8.ofNat 8 * UInt8.ofNat 32) i (x % UInt8.ofNat 32))).getD j 0 = if j = i then x % UInt8.ofNat 32 else 0 := by
  have hl : (List.replicate n (0 : UInt8)).length = n := List.length_replicate ..
  obtain ⟨z, hz, z1, z2⟩ := hd_get (l := List.replicate n 0) (by rw [hl]; exact h0) t x i
  have hp := hdP_all t z
  unfold hdP at hp
  simp only [Bool.and_eq_true] at hp
  have hb := eq_of_beq hp.2
  unfold bareL
  rw [hz, hb]
  cases j with
  | zero =>
    rw [getD_set_self (by rw [hdL_len, hl]; exact h0)]
    by_cases e : i = 0
    · rw [if_pos e.symm, z1 e]
    · rw [if_neg (fun k => e k.symm), z2 e]; rfl
  | succ k =>
    rw [getD_set_other (Nat.succ_ne_zero k).symm]
    unfold hdL
    by_cases e : k + 1 = i
    · rw [if_pos e, ← e, getD_set_self (by rw [List.length_set, hl, e]; exact hi), getD_set_other (Nat.succ_ne_zero k).symm, rep_get, or_zero]
    · rw [if_neg e, getD_set_other (fun k => e k.symm), getD_set_other (Nat.succ_ne_zero k).symm, rep_get]
section
variable {n : Nat} (h0 : 0 < n) {i : Nat} (hi : i < n) (t x : UInt8)
include h0 hi in
theorem heads_bits : (decide (t % UInt8.ofNat 8 < UInt8.ofNat 4) = true → bit7 (hdL (List.replicate n 0) (t % UInt8.ofNat 8 * UInt8.ofNat 32) i (x % UInt8.ofNat 32)) = true) ∧
    ((t % UInt8.ofNat 8 == UInt8.ofNat 7) = true → bit6 (hdL (List.replicate n 0) (t % UInt8.ofNat 8 * UInt8.ofNat 32) i (x % UInt8.ofNat 32)) = true ∧ bit5 (hdL (List.replicate n 0) (t % UInt8.ofNat 8 * UInt8.ofNat 32) i (x % UInt8.ofNat 32)) = true) ∧
    ((t % UInt8.ofNat 8 == UInt8.ofNat 6) = true → bit7 (hdL (List.replicate n 0) (t % UInt8.ofNat 8 * UInt8.ofNat 32) i (x % UInt8.ofNat 32)) = false ∧ bit6 (hdL (List.replicate n 0) (t % UInt8.ofNat 8 * UInt8.ofNat 32) i (x % UInt8.ofNat 32)) = true ∧ bit5 (hdL (List.replicate n 0) (t % UInt8.ofNat 8 * UInt8.ofNat 32) i (x % UInt8.ofNat 32)) = false) := by
  have hl : (List.replicate n (0 : UInt8)).length = n := List.length_replicate ..
  obtain ⟨z, hz, _, _⟩ := hd_get (l := List.replicate n 0) (by rw [hl]; exact h0) t x i
  have hp := hdP_all t z
  unfold hdP at hp
  unfold bit7 bit6 bit5
  rw [hz]
  simp only [Bool.and_eq_true, Bool.or_eq_true, Bool.not_eq_true'] at hp
  obtain ⟨⟨⟨p1, p2⟩, p3⟩, _⟩ := hp
  have p1 := eq_of_beq p1
  refine ⟨fun e => by rw [p1]; exact e, fun e => ?_, fun e => ?_⟩
  · rcases p2 with k | k
    · rw [e] at k; cases k
    · exact k
  · rcases p3 with k | k
    · rw [e] at k; cases k
    · refine ⟨?_, k.1, k.2⟩
      rw [p1, eq_of_beq e]
      rfl
include h0 hi in
theorem heads_zero : zeroTo (bareL (hdL (List.replicate n 0) (t % UInt8.ofNat 8 * UInt8.ofNat 32) i (x % UInt8.ofNat 32))) (hdL (List.replicate n 0) (t % UInt8.ofNat 8 * UInt8.ofNat 32) i (x % UInt8.ofNat 32)).length = !(x % UInt8.ofNat 32 != UInt8.ofNat 0) := by
  have hl : (hdL (List.replicate n 0) (t % UInt8.ofNat 8 * UInt8.ofNat 32) i (x % UInt8.ofNat 32)).length = n := by rw [hdL_len, List.length_replicate]
  have hg := bare_get h0 hi t x
  rw [hl]
  generalize bareL (hdL (List.replicate n 0) (t % UInt8.ofNat 8 * UInt8.ofNat 32) i (x % UInt8.ofNat 32)) = b at *
  generalize x % UInt8.ofNat 32 = y at *
  cases e : (y != UInt8.ofNat 0) with
  | true =>
    cases k : zeroTo b n with
    | false => rfl
    | true =>
      have := zeroTo_at k i hi
      rw [hg i, if_pos rfl] at this
      rw [this] at e
      cases e
  | false =>
    have e : y = 0 := by simpa using e
    refine zeroTo_all n fun j hj => ?_
    rw [hg j, e]
    split <;> rfl
end
theorem len_hd {n i : Nat} {h y : UInt8} : ((hdL (List.replicate n 0) h i y).length : Int) = n := by rw [hdL_len, List.length_replicate]
theorem heads1 {i : Nat} (hi : i < 48) (t x : UInt8) (e : decide (t % UInt8.ofNat 8 < UInt8.ofNat 4) = true ∨ (t % UInt8.ofNat 8 == UInt8.ofNat 7) = true ∨ ((t % UInt8.ofNat 8 == UInt8.ofNat 6) = true ∧ (x % UInt8.ofNat 32 != UInt8.ofNat 0) = true)) : (take1F (hdL (List.replicate 48 0) (t % UInt8.ofNat 8 * UInt8.ofNat 32) i (x % UInt8.ofNat 32))).2 = 3 := by
  obtain ⟨h1, h2, h3⟩ := heads_bits (n := 48) (by decide) hi t x
  have hz := heads_zero (n := 48) (by decide) hi t x
  rw [take1F_val]
  refine takeV_3 (bare_3 len_hd ?_)
  rcases e with e | e | ⟨e, k⟩
  · exact .inl (h1 e)
  · exact .inr ⟨(h2 e).1, .inl (h2 e).2⟩
  · rw [k] at hz
    exact .inr ⟨(h3 e).2.1, .inr hz⟩
theorem heads1i {i : Nat} (hi : i < 48) (t x : UInt8) (e : (t % UInt8.ofNat 8 == UInt8.ofNat 6) = true) (k : (x % UInt8.ofNat 32 != UInt8.ofNat 0) = false) : take1F (hdL (List.replicate 48 0) (t % UInt8.ofNat 8 * UInt8.ofNat 32) i (x % UInt8.ofNat 32)) = (infG1, 0) := by
  obtain ⟨h1, h2, h3⟩ := heads_bits (n := 48) (by decide) hi t x
  have hz := heads_zero (n := 48) (by decide) hi t x
  rw [k] at hz
  obtain ⟨a, b, c⟩ := h3 e
  obtain ⟨u, v⟩ := bare_i (n := ((48 : Nat) : Int)) len_hd a b c hz
  rw [take1F_val]
  exact takeV_i u v
theorem heads2 {i : Nat} (hi : i < 96) (t x : UInt8) (e : decide (t % UInt8.ofNat 8 < UInt8.ofNat 4) = true ∨ (t % UInt8.ofNat 8 == UInt8.ofNat 7) = true ∨ ((t % UInt8.ofNat 8 == UInt8.ofNat 6) = true ∧ (x % UInt8.ofNat 32 != UInt8.ofNat 0) = true)) : (take2F (hdL (List.replicate 96 0) (t % UInt8.ofNat 8 * UInt8.ofNat 32) i (x % UInt8.ofNat 32))).2 = 3 := by
  obtain ⟨h1, h2, h3⟩ := heads_bits (n := 96) (by decide) hi t x
  have hz := heads_zero (n := 96) (by decide) hi t x
  rw [take2F_val]
  refine takeV_3 (bare_3 len_hd ?_)
  rcases e with e | e | ⟨e, k⟩
  · exact .inl (h1 e)
  · exact .inr ⟨(h2 e).1, .inl (h2 e).2⟩
  · rw [k] at hz
    exact .inr ⟨(h3 e).2.1, .inr hz⟩
theorem heads2i {i : Nat} (hi : i < 96) (t x : UInt8) (e : (t % UInt8.ofNat 8 == UInt8.ofNat 6) = true) (k : (x % UInt8.ofNat 32 != UInt8.ofNat 0) = false) : take2F (hdL (List.replicate 96 0) (t % UInt8.ofNat 8 * UInt8.ofNat 32) i (x % UInt8.ofNat 32)) = (infG2, 0) := by
  obtain ⟨h1, h2, h3⟩ := heads_bits (n := 96) (by decide) hi t x
  have hz := heads_zero (n := 96) (by decide) hi t x
  rw [k] at hz
  obtain ⟨a, b, c⟩ := h3 e
  obtain ⟨u, v⟩ := bare_i (n := ((96 : Nat) : Int)) len_hd a b c hz
  rw [take2F_val]
  exact takeV_i u v
section
variable {f0 : Bool} {f1 : List UInt8 → Pg1 × Int} {f2 : List UInt8 → Pg2 × Int} {f3 : List UInt8 → Pg1 × Int} {f4 : List UInt8 → Pg2 × Int} {top pl x : UInt8} {l c : List UInt8}
theorem tmod48 : 0 ≤ (pl.toNat : Int).tmod 48 ∧ (pl.toNat : Int).tmod 48 < 48 := by
  rw [Int.tmod_eq_emod_of_nonneg (by omega)]
  omega
theorem hdr_vc (hl : l.length = 48) (hc : c.length = 96) : (hdr_T f0 f1 f2 f3 f4 top pl x l c).full = true ∧ (hdr_T f0 f1 f2 f3 f4 top pl x l c).okAll := by
  refine ⟨rfl, ?_⟩
  have ht := tmod48 (pl := pl)
  unfold hdr_T
  simp only [Tree.okAll, Pr.holds, map_b, List.length_set, hl, hc, littleB, List.drop_zero, List.length_take, implies_true, and_true, true_and]
  generalize (pl.toNat : Int).tmod 48 = u at *
  refine ⟨?_, ?_⟩ <;> (repeat' (first | omega | trivial | (refine ⟨?_, ?_⟩) | intro _))
theorem hdr_L {L : List UInt8} {C : List UInt8} (hL : List.take 48 (List.drop 0 ((l.set 0 (top % UInt8.ofNat 8 * UInt8.ofNat 32)).set (0 + ((pl.toNat : Int).tmod 48).toNat * 1) ((l.set 0 (top % UInt8.ofNat 8 * UInt8.ofNat 32)).getD (0 + ((pl.toNat : Int).tmod 48).toNat * 1) 0 ||| x % UInt8.ofNat 32))) = L)
    (hC : List.take 96 (List.drop 0 ((c.set 0 (top % UInt8.ofNat 8 * UInt8.ofNat 32)).set (0 + ((pl.toNat : Int).tmod 48).toNat * 1) ((c.set 0 (top % UInt8.ofNat 8 * UInt8.ofNat 32)).getD (0 + ((pl.toNat : Int).tmod 48).toNat * 1) 0 ||| x % UInt8.ofNat 32))) = C)
    (e3 : decide (top % UInt8.ofNat 8 < UInt8.ofNat 4) = true ∨ (top % UInt8.ofNat 8 == UInt8.ofNat 7) = true ∨ ((top % UInt8.ofNat 8 == UInt8.ofNat 6) = true ∧ (x % UInt8.ofNat 32 != UInt8.ofNat 0) = true) → (f1 L).2 = 3 ∧ (f2 C).2 = 3)
    (e6 : (top % UInt8.ofNat 8 == UInt8.ofNat 6) = true → (x % UInt8.ofNat 32 != UInt8.ofNat 0) = false → f1 L = (infG1, 0) ∧ f2 C = (infG2, 0)) (e1 : f1 L = f3 L) (e2 : f2 C = f4 C) : (hdr_T f0 f1 f2 f3 f4 top pl x l c).outD false = true := by
  unfold hdr_T
  simp only [outD_br, outD_vc, outD_leaf, hL, hC]
  cases c4 : decide (top % UInt8.ofNat 8 < UInt8.ofNat 4) with
  | true =>
    obtain ⟨k1, k2⟩ := e3 (.inl c4)
    rw [k1, k2]
    rfl
  | false =>
    cases c7 : (top % UInt8.ofNat 8 == UInt8.ofNat 7) with
    | true =>
      obtain ⟨k1, k2⟩ := e3 (.inr (.inl c7))
      rw [k1, k2]
      rfl
    | false =>
      cases c6 : (top % UInt8.ofNat 8 == UInt8.ofNat 6) with
      | true =>
        cases cy : (x % UInt8.ofNat 32 != UInt8.ofNat 0) with
        | true =>
          obtain ⟨k1, k2⟩ := e3 (.inr (.inr ⟨c6, cy⟩))
          rw [k1, k2]
          rfl
        | false =>
          obtain ⟨k1, k2⟩ := e6 c6 cy
          rw [k1, k2]
          rfl
      | false =>
        rw [← e1, ← e2]
        simp only [cond_false, cond_true, beq_self_eq_true, (pg1Eq_iff _ _).2 rfl]
        rfl
end
theorem take_hd {n : Nat} {l : List UInt8} (hl : l = List.replicate n 0) (h y : UInt8) (i : Nat) : List.take n (List.drop 0 ((l.set 0 h).set (0 + i * 1) ((l.set 0 h).getD (0 + i * 1) 0 ||| y))) = hdL (List.replicate n 0) h i y := by
  subst hl
  rw [List.drop_zero, Nat.zero_add, Nat.mul_one, List.take_of_length_le (by rw [List.length_set, List.length_set, List.length_replicate]; exact Nat.le_refl n)]
  rfl
theorem hdr_true {b : Bool} {top pl x : UInt8} {l c : List UInt8} (hl : l = List.replicate 48 0) (hc : c = List.replicate 96 0) : (hdr_T b take1F take2F rtake1F rtake2F top pl x l c).outD false = true := by
  have ht := tmod48 (pl := pl)
  have hi : ((pl.toNat : Int).tmod 48).toNat < 48 := by omega
  exact hdr_L (take_hd hl _ _ _) (take_hd hc _ _ _) (fun e => ⟨heads1 hi top x e, heads2 (by omega) top x e⟩) (fun e k => ⟨heads1i hi top x e k, heads2i (by omega) top x e k⟩) (rtake1F_eq _) (rtake2F_eq _)
theorem hdr_does (hE : EnvOk (hdE true take1F take2F rtake1F rtake2F)) {top pl x : UInt8} {l c : List UInt8} (hl : l = List.replicate 48 0) (hc : c = List.replicate 96 0) :
    DoesL (hdE true take1F take2F rtake1F rtake2F) (hdC.drop 4) (hdSt top pl x l c) (EndsAs (hdE true take1F take2F rtake1F rtake2F) Tryz.f12 (Reads oB true)) := by
  have h1 : l.length = 48 := by rw [hl]; exact List.length_replicate ..
  have h2 : c.length = 96 := by rw [hc]; exact List.length_replicate ..
  obtain ⟨v1, v2⟩ := hdr_vc (f0 := true) (f1 := take1F) (f2 := take2F) (f3 := rtake1F) (f4 := rtake2F) (top := top) (pl := pl) (x := x) h1 h2
  have key := DoesL.outs hE 300 false (hdr_run true take1F take2F rtake1F rtake2F top pl x l c) v1 v2
  rw [hdr_true hl hc] at key
  exact key
theorem hdh_start' (top pl x : UInt8) : segT (hdE true take1F take2F rtake1F rtake2F) oB 300 Tryz.f12 (hdC.take 4) (startSt Tryz.f12 [.one (kU8.av top), .one (kU8.av pl), .one (kU8.av x)] []) [0, 1, 2, 7, 8] [0, 1] [(0, .as), (1, .as), (2, .as), (7, .as), (8, .as)] [.lst .u8, .lst .u8] [] =
    .br (!true) (.leaf (.inr (some (false, .t)))) (.leaf (.inl (hdSt top pl x (List.replicate 48 0) (List.replicate 96 0)))) := (hdh_start true take1F take2F rtake1F rtake2F top pl x).trans (by kernel_rfl)
theorem pointHeads_gives {w : World} {vt vp vx : Value} {top pl x : UInt8} (gt : kU8.arg.is w vt top) (gp : kU8.arg.is w vp pl) (gx : kU8.arg.is w vx x) : Gives Tryz.prog 12 #[vt, vp, vx] w kBool.rs.res true :=
  G3g (E := hdE true take1F take2F rtake1F rtake2F) Tryz.func12 (c := codeOf Tryz.f12) (by kernel_rfl) kU8.inp kU8.inp kU8.inp oB true gt gp gx (fun _ _ _ => by
    have hb := begun10_ok
    rw [begun10_true] at hb
    have hE : EnvOk (hdE true take1F take2F rtake1F rtake2F) := En_ok (.cons hb (.cons take1F_ok (.cons take2F_ok (.cons rtake1F_ok (.cons rtake2F_ok .nil)))))
    refine DoesL.seg hE 300 4 _ _ _ _ _ (hdh_start' top pl x) ⟨fun h => (by cases h), fun _ => hdr_does hE rfl rfl⟩)
end Go.Proofs.YtbbnabednkopdaaGreat
