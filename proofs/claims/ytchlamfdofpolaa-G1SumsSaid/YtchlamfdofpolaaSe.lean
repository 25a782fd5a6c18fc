/- Sums of many points, by value. -/
import Derived.Test.YtchlamfdofpolaaSc
import Derived.Test.YtchlamfdofpolaaQn
set_option linter.unusedSimpArgs false
set_option linter.unusedVariables false
namespace Go.Proofs.Ytchlamfdofpolaa
open Go.RowKit

section
variable {K : Type} [Fld K] [Crv K]
/-- So many points, each so many times, together. -/
noncomputable def wsum (P : Nat → Pt K) (k : Nat → Nat) : Nat → Pt K
  | 0 => .inf
  | j + 1 => (wsum P k j).add ((P j).mul (k j))
theorem wsum_on {P : Nat → Pt K} {k : Nat → Nat} : ∀ {n : Nat}, (∀ j, j < n → (P j).on) → (wsum P k n).on
  | 0, _ => trivial
  | n + 1, h => add_on (wsum_on fun j hj => h j (by omega)) (mul_on (h n (by omega)) _)
omit [Crv K] in
theorem wsum_congr {P Q : Nat → Pt K} {k l : Nat → Nat} : ∀ {n : Nat}, (∀ j, j < n → P j = Q j ∧ k j = l j) → wsum P k n = wsum Q l n
  | 0, _ => rfl
  | n + 1, h => by
    simp only [wsum]
    rw [wsum_congr fun j hj => h j (by omega), (h n (by omega)).1, (h n (by omega)).2]
theorem four_sum {a b c d : Pt K} (ha : a.on) (hb : b.on) (hc : c.on) (hd : d.on) : (a.add b).add (c.add d) = (a.add c).add (b.add d) := by
  rw [add_assoc_pt ha hb (add_on hc hd), ← add_assoc_pt hb hc hd, add_comm_pt hb hc, add_assoc_pt hc hb hd, ← add_assoc_pt ha hc (add_on hb hd)]
theorem wsum_add {P : Nat → Pt K} {k l : Nat → Nat} : ∀ {n : Nat}, (∀ j, j < n → (P j).on) → wsum P (fun j => k j + l j) n = (wsum P k n).add (wsum P l n)
  | 0, _ => rfl
  | n + 1, h => by
    have h' : ∀ j, j < n → (P j).on := fun j hj => h j (by omega)
    simp only [wsum]
    rw [wsum_add h', mul_add_pt (h n (by omega)), four_sum (wsum_on h') (wsum_on h') (mul_on (h n (by omega)) _) (mul_on (h n (by omega)) _)]
theorem wsum_mul {P : Nat → Pt K} {k : Nat → Nat} (m : Nat) : ∀ {n : Nat}, (∀ j, j < n → (P j).on) → wsum P (fun j => k j * m) n = (wsum P k n).mul m
  | 0, _ => (mul_inf_pt m).symm
  | n + 1, h => by
    have h' : ∀ j, j < n → (P j).on := fun j hj => h j (by omega)
    simp only [wsum]
    rw [wsum_mul m h', mul_mul_pt (h n (by omega)), add_mul_pt (wsum_on h') (mul_on (h n (by omega)) _)]
omit [Crv K] in
theorem wsum_zero {P : Nat → Pt K} {k : Nat → Nat} : ∀ {n : Nat}, (∀ j, j < n → k j = 0) → wsum P k n = .inf
  | 0, _ => rfl
  | n + 1, h => by
    simp only [wsum]
    rw [wsum_zero fun j hj => h j (by omega), h n (by omega)]
    rfl
theorem mul_sixteen {p : Pt K} (hp : p.on) : (((p.add p).add (p.add p)).add ((p.add p).add (p.add p))).add (((p.add p).add (p.add p)).add ((p.add p).add (p.add p))) = p.mul 16 := by
  have d : ∀ n, (p.mul n).add (p.mul n) = p.mul (n + n) := fun n => (mul_add_pt hp n n).symm
  have e : p.add p = p.mul 2 := by have := d 1; rw [mul_one_pt] at this; exact this
  rw [e, d 2, d 4, d 8]
end

theorem getD_map' {α γ : Type} (f : α → γ) (d : α) (d' : γ) {xs : List α} {i : Nat} (h : i < xs.length) : (xs.map f).getD i d' = f (xs.getD i d) := by
  rw [List.getD_eq_getElem?_getD, List.getElem?_map, List.getElem?_eq_getElem h, List.getD_eq_getElem?_getD, List.getElem?_eq_getElem h]
  rfl
theorem limb_nat (k : Fr) : ∀ {i : Nat}, i < 4 → (k.limb i).toNat = k.nat / 2 ^ (64 * i) % 2 ^ 64
  | 0, _ => by
    have h0 := k.l0.toNat_lt
    show k.l0.toNat = _
    unfold Fr.nat
    rw [show W64 = 18446744073709551616 from rfl]
    simp only [Nat.mul_zero, Nat.pow_zero, Nat.div_one]
    omega
  | 1, _ => by
    have h0 := k.l0.toNat_lt
    have h1 := k.l1.toNat_lt
    show k.l1.toNat = _
    unfold Fr.nat
    rw [show W64 = 18446744073709551616 from rfl, show 2 ^ (64 * 1) = 18446744073709551616 from rfl]
    omega
  | 2, _ => by
    have h0 := k.l0.toNat_lt
    have h1 := k.l1.toNat_lt
    have h2 := k.l2.toNat_lt
    show k.l2.toNat = _
    unfold Fr.nat
    rw [show W64 = 18446744073709551616 from rfl, show 2 ^ (64 * 2) = 18446744073709551616 * 18446744073709551616 from rfl, ← Nat.div_div_eq_div_mul]
    omega
  | 3, _ => by
    have h0 := k.l0.toNat_lt
    have h1 := k.l1.toNat_lt
    have h2 := k.l2.toNat_lt
    have h3 := k.l3.toNat_lt
    show k.l3.toNat = _
    unfold Fr.nat
    rw [show W64 = 18446744073709551616 from rfl, show 2 ^ (64 * 3) = 18446744073709551616 * 18446744073709551616 * 18446744073709551616 from rfl, ← Nat.div_div_eq_div_mul, ← Nat.div_div_eq_div_mul]
    omega
  | n + 4, h => absurd h (by omega)

theorem digU_nat (k : Fr) {m : Nat} (hm : m < 64) : (digU k ((4 * m : Nat) : Int)).toNat = k.nat / 16 ^ m % 16 := by
  have hw : IntKind.i64.wrap (((4 * m : Nat) : Int).tdiv 64) = ((m / 16 : Nat) : Int) := by
    rw [show (((4 * m : Nat) : Int).tdiv 64) = ((4 * m / 64 : Nat) : Int) from rfl, IntWalk.i64_in _ (by omega)]
    congr 1
    omega
  have hs : ((UInt64.ofNat (((4 * m : Nat) : Int).tmod 64 % 18446744073709551616).toNat).toNat : Int) = ((4 * (m % 16) : Nat) : Int) := by
    rw [show (((4 * m : Nat) : Int).tmod 64) = ((4 * m % 64 : Nat) : Int) from rfl, UInt64.toNat_ofNat']
    omega
  unfold digU
  rw [hw, hs, Int.toNat_natCast, UInt64.toNat_mod]
  unfold shrU
  have hl := limb_nat k (i := m / 16) (by omega)
  have e16 : (UInt64.ofNat 16).toNat = 16 := rfl
  have hb := (k.limb (m / 16)).toNat_lt
  rw [UInt64.toNat_ofNat', e16, Int.toNat_natCast, Nat.min_eq_left (by omega)]
  have hd : (k.limb (m / 16)).toNat / 2 ^ (4 * (m % 16)) < 2 ^ 64 := Nat.lt_of_le_of_lt (Nat.div_le_self _ _) hb
  rw [Nat.mod_eq_of_lt hd, hl]
  have hp : (16 : Nat) ^ m = 2 ^ (64 * (m / 16)) * 2 ^ (4 * (m % 16)) := by
    rw [← Nat.pow_add, show (16 : Nat) = 2 ^ 4 from rfl, ← Nat.pow_mul]
    congr 1
    omega
  rw [hp, ← Nat.div_div_eq_div_mul]
  generalize k.nat / 2 ^ (64 * (m / 16)) = y
  have hs : 4 * (m % 16) + 4 ≤ 64 := by omega
  obtain ⟨r, hr⟩ : ∃ r, 64 = 4 * (m % 16) + (4 + r) := ⟨64 - 4 - 4 * (m % 16), by omega⟩
  rw [hr, Nat.pow_add, Nat.mod_mul_right_div_self, Nat.pow_add, Nat.mod_mul_right_mod]

section
variable {K : Type} [Fld K] [Crv K] {R : Sp1 → Pt K → Prop} {tw : Sp1 → Sp1} {pl : Sp1 → Sp1 → Sp1} (h0 : R zeroSp .inf) (htw : ∀ {s : Sp1} {p : Pt K}, p.on → R s p → R (tw s) (p.add p))
  (hpl : ∀ {s t : Sp1} {p q : Pt K}, p.on → q.on → R s p → R t q → R (pl s t) (p.add q))
include h0 hpl in
theorem tabF1_rel {s : Sp1} {p : Pt K} (hp : p.on) (h : R s p) : ∀ d, R (tabF1 pl s d) (p.mul d)
  | 0 => h0
  | d + 1 => hpl (mul_on hp d) hp (tabF1_rel hp h d) h
include hpl in
theorem sumIn1_rel {tl : List Sp1} {ks : List Fr} {z : Int} {P : Nat → Pt K} {d : Nat → Nat} {n : Nat} (hP : ∀ j, j < n → (P j).on) (ht : ∀ j, j < n → R (tl.getD (j * 16 + (digU (ks.getD j fr0) z).toNat) sp0) ((P j).mul (d j)))
    {o : Sp1} {p : Pt K} (hp : p.on) (ho : R o p) : ∀ j, j ≤ n → R (sumIn1 pl tl ks z j o) (p.add (wsum P d j))
  | 0, _ => by
    rw [wsum, add_inf]
    exact ho
  | j + 1, h => by
    have hw : (wsum P d j).on := wsum_on fun i hi => hP i (by omega)
    have := hpl (add_on hp hw) (mul_on (hP j (by omega)) (d j)) (sumIn1_rel hP ht hp ho j (by omega)) (ht j (by omega))
    rw [add_assoc_pt hp hw (mul_on (hP j (by omega)) _)] at this
    exact this
include htw in
theorem twice4_rel {o : Sp1} {p : Pt K} (hp : p.on) (h : R o p) : R (tw (tw (tw (tw o)))) (p.mul 16) := by
  rw [← mul_sixteen hp]
  exact htw (add_on (add_on (add_on hp hp) (add_on hp hp)) (add_on (add_on hp hp) (add_on hp hp))) (htw (add_on (add_on hp hp) (add_on hp hp)) (htw (add_on hp hp) (htw hp h)))
include htw hpl in
theorem sumOut1_rel {tl : List Sp1} {ks : List Fr} {P : Nat → Pt K} {n : Nat} (hP : ∀ j, j < n → (P j).on) (ht : ∀ j d, j < n → d < 16 → R (tl.getD (j * 16 + d) sp0) ((P j).mul d)) :
    ∀ (m : Nat), m ≤ 64 → ∀ {o : Sp1}, R o (wsum P (fun j => (ks.getD j fr0).nat / 16 ^ m) n) → R (sumOut1 tw pl tl ks n m o) (wsum P (fun j => (ks.getD j fr0).nat) n)
  | 0, _, o, h => by
    simp only [Nat.pow_zero, Nat.div_one] at h
    exact h
  | m + 1, hm, o, h => by
    simp only [sumOut1]
    refine sumOut1_rel hP ht m (by omega) ?_
    have hw := wsum_on (k := fun j => (ks.getD j fr0).nat / 16 ^ (m + 1)) hP
    have h1 := sumIn1_rel hpl (tl := tl) (ks := ks) (z := ((4 * m : Nat) : Int)) (d := fun j => (ks.getD j fr0).nat / 16 ^ m % 16) hP (fun j hj => by
      rw [digU_nat _ (by omega)]
      exact ht j _ hj (Nat.mod_lt _ (by decide))) (mul_on hw 16) (twice4_rel htw hw h) n (Nat.le_refl n)
    rw [← wsum_mul 16 hP, ← wsum_add hP] at h1
    rw [wsum_congr (Q := P) (l := fun j => (ks.getD j fr0).nat / 16 ^ m) (fun j _ => ⟨rfl, by
      have key : (ks.getD j fr0).nat / 16 ^ (m + 1) = (ks.getD j fr0).nat / 16 ^ m / 16 := by rw [Nat.pow_succ, Nat.div_div_eq_div_mul]
      show (ks.getD j fr0).nat / 16 ^ (m + 1) * 16 + (ks.getD j fr0).nat / 16 ^ m % 16 = (ks.getD j fr0).nat / 16 ^ m
      rw [key]
      generalize (ks.getD j fr0).nat / 16 ^ m = y
      omega⟩)] at h1
    exact h1
end
theorem sixteen_getD {α : Type} (f : Nat → α) (d : α) : ∀ {i : Nat}, i < 16 → (sixteen f).getD i d = f i
  | 0, _ => rfl | 1, _ => rfl | 2, _ => rfl | 3, _ => rfl | 4, _ => rfl | 5, _ => rfl | 6, _ => rfl | 7, _ => rfl
  | 8, _ => rfl | 9, _ => rfl | 10, _ => rfl | 11, _ => rfl | 12, _ => rfl | 13, _ => rfl | 14, _ => rfl | 15, _ => rfl
  | n + 16, h => absurd h (by omega)
theorem tabs1_getD (f : Pg1 → Nat → Sp1) (F : Pg1 → Tab .sp1) (hF : ∀ p, (F p).xs = sixteen (f p)) : ∀ (ps : List Pg1) (j d : Nat), j < ps.length → d < 16 → (tabs1 F ps).getD (j * 16 + d) sp0 = f (ps.getD j pg10) d
  | [], j, d, hj, _ => absurd hj (Nat.not_lt_zero j)
  | p :: ps, 0, d, _, hd => by
    have h16 : (F p).xs.length = 16 := (F p).len
    have e : tabs1 F (p :: ps) = (F p).xs ++ tabs1 F ps := by simp [tabs1]
    rw [e, Nat.zero_mul, Nat.zero_add, List.getD_eq_getElem?_getD, List.getElem?_append_left (by omega), ← List.getD_eq_getElem?_getD, hF]
    exact sixteen_getD _ _ hd
  | p :: ps, j + 1, d, hj, hd => by
    have h16 : (F p).xs.length = 16 := (F p).len
    have e : tabs1 F (p :: ps) = (F p).xs ++ tabs1 F ps := by simp [tabs1]
    rw [e, List.getD_eq_getElem?_getD, List.getElem?_append_right (by omega), h16, show (j + 1) * 16 + d - 16 = j * 16 + d by omega, ← List.getD_eq_getElem?_getD]
    exact tabs1_getD f F hF ps j d (by simpa using hj) hd
theorem tab1V_xs (p : Pg1) : (tab1V p).xs = sixteen (tabF1 plusG1 (liftG1 p)) := rfl

theorem laysG1_sum {ps : List Pg1} (hp : ∀ i, i < ps.length → (ps.getD i pg10).good) (ks : List Fr) : (sumG1 ps ks).good ∧ (sumG1 ps ks).pt = wsum (fun j => (ps.getD j pg10).pt) (fun j => (ks.getD j fr0).nat) (sumN1 ps ks) := by
  have hN : sumN1 ps ks ≤ ps.length := Nat.min_le_right _ _
  have hP : ∀ j, j < sumN1 ps ks → (ps.getD j pg10).pt.on := fun j hj => (hp j (by omega)).2
  unfold sumG1
  refine lays1_rel (wsum_on hP) (sumOut1_rel (R := rel1) twice1_rel plus1_rel hP (fun j d hj hd => ?_) 64 (Nat.le_refl _) ?_)
  · rw [tabs1_getD (fun p => tabF1 plusG1 (liftG1 p)) tab1V tab1V_xs (ps.take (sumN1 ps ks)) j d (by rw [List.length_take]; omega) hd]
    have e : (ps.take (sumN1 ps ks)).getD j pg10 = ps.getD j pg10 := by rw [List.getD_eq_getElem?_getD, List.getD_eq_getElem?_getD, List.getElem?_take_of_lt hj]
    rw [e]
    exact tabF1_rel (R := rel1) rel1_inf plus1_rel (hP j hj) (lift1_rel (hp j (by omega))) d
  · rw [wsum_zero fun j hj => ?_]
    · exact rel1_inf
    · have h1 := (ks.getD j fr0).nat_lt
      have h2 : r4N = 16 ^ 64 := by decide +kernel
      rw [h2] at h1
      exact Nat.div_eq_of_lt h1

end Go.Proofs.Ytchlamfdofpolaa
