/- Numbers of four limbs: what the document's functions on them come to. -/
import Derived.Test.YtchlamfdofpolaaFD
import Derived.Test.YtchlamfdofpolaaMB
set_option linter.unusedSimpArgs false
set_option linter.unusedVariables false
namespace Go.Proofs.Ytchlamfdofpolaa

/-- The scalars' modulus. -/
def qN : Nat := 0x73eda753299d7d483339d80809a1d80553bda402fffe5bfeffffffff00000001
/-- 2^256. -/
def r4N : Nat := 0x10000000000000000000000000000000000000000000000000000000000000000
def Fr.nat (a : Fr) : Nat := a.l0.toNat + W64 * (a.l1.toNat + W64 * (a.l2.toNat + W64 * (a.l3.toNat)))
theorem Fr.nat_lt (a : Fr) : a.nat < r4N := by
  have h0 := a.l0.toNat_lt
  have h1 := a.l1.toNat_lt
  have h2 := a.l2.toNat_lt
  have h3 := a.l3.toNat_lt
  unfold Fr.nat r4N W64
  omega
theorem Fr.nat_inj {a b : Fr} (h : a.nat = b.nat) : a = b := by
  have h0 := a.l0.toNat_lt
  have h1 := a.l1.toNat_lt
  have h2 := a.l2.toNat_lt
  have h3 := a.l3.toNat_lt
  have k0 := b.l0.toNat_lt
  have k1 := b.l1.toNat_lt
  have k2 := b.l2.toNat_lt
  have k3 := b.l3.toNat_lt
  unfold Fr.nat W64 at h
  have e0 : a.l0 = b.l0 := UInt64.toNat.inj (by omega)
  have e1 : a.l1 = b.l1 := UInt64.toNat.inj (by omega)
  have e2 : a.l2 = b.l2 := UInt64.toNat.inj (by omega)
  have e3 : a.l3 = b.l3 := UInt64.toNat.inj (by omega)
  cases a; cases b
  simp only [] at e0 e1 e2 e3
  subst e0 e1 e2 e3
  rfl
theorem rLimbs_nat : rLimbs.nat = qN := by decide +kernel
theorem add4T_nat (a b : Fr) : (add4T a b).1.nat + r4N * (add4T a b).2.toNat = a.nat + b.nat := by
  unfold add4T
  simp only []
  have s0 := add_step a.l0 b.l0 false
  generalize addC a.l0 b.l0 false = c0 at *
  have s1 := add_step a.l1 b.l1 c0
  generalize addC a.l1 b.l1 c0 = c1 at *
  have s2 := add_step a.l2 b.l2 c1
  generalize addC a.l2 b.l2 c1 = c2 at *
  have s3 := add_step a.l3 b.l3 c2
  generalize addC a.l3 b.l3 c2 = c3 at *
  unfold Fr.nat r4N W64 at *
  simp only [Bool.toNat_false] at *
  omega
theorem sub4T_nat (a b : Fr) : (sub4T a b).1.nat + b.nat = a.nat + r4N * (sub4T a b).2.toNat := by
  unfold sub4T
  simp only []
  have s0 := sub_step a.l0 b.l0 false
  generalize subB a.l0 b.l0 false = c0 at *
  have s1 := sub_step a.l1 b.l1 c0
  generalize subB a.l1 b.l1 c0 = c1 at *
  have s2 := sub_step a.l2 b.l2 c1
  generalize subB a.l2 b.l2 c1 = c2 at *
  have s3 := sub_step a.l3 b.l3 c2
  generalize subB a.l3 b.l3 c2 = c3 at *
  unfold Fr.nat r4N W64 at *
  simp only [Bool.toNat_false] at *
  omega
theorem below4F_nat (a m : Fr) : below4F a m = decide (a.nat < m.nat) := by
  have h0 := a.l0.toNat_lt
  have k0 := m.l0.toNat_lt
  have h1 := a.l1.toNat_lt
  have k1 := m.l1.toNat_lt
  have h2 := a.l2.toNat_lt
  have k2 := m.l2.toNat_lt
  have same : ∀ {x y : UInt64}, (x != y) = false → x.toNat = y.toNat := fun h => by
    simp only [bne_eq_false_iff_eq] at h
    rw [h]
  unfold below4F
  cases e3 : a.l3 != m.l3 with
  | true =>
    have := u64_ne.1 e3
    refine decide_eq_decide.2 ?_
    rw [UInt64.lt_iff_toNat_lt]
    unfold Fr.nat W64
    omega
  | false =>
    have e3 := same e3
    simp only []
    cases e2 : a.l2 != m.l2 with
    | true =>
      have := u64_ne.1 e2
      refine decide_eq_decide.2 ?_
      rw [UInt64.lt_iff_toNat_lt]
      unfold Fr.nat W64
      omega
    | false =>
      have e2 := same e2
      simp only []
      cases e1 : a.l1 != m.l1 with
      | true =>
        have := u64_ne.1 e1
        refine decide_eq_decide.2 ?_
        rw [UInt64.lt_iff_toNat_lt]
        unfold Fr.nat W64
        omega
      | false =>
        have e1 := same e1
        simp only []
        cases e0 : a.l0 != m.l0 with
        | true =>
          have := u64_ne.1 e0
          refine decide_eq_decide.2 ?_
          rw [UInt64.lt_iff_toNat_lt]
          unfold Fr.nat W64
          omega
        | false =>
          have e0 := same e0
          refine (decide_eq_false ?_).symm
          unfold Fr.nat W64
          omega
theorem mayRF_nat (a : Fr) : mayRF a = decide (a.nat < qN) := by
  rw [show mayRF a = below4F a rLimbs from rfl, below4F_nat, rLimbs_nat]
theorem borrow4_iff (a b : Fr) : (sub4T a b).2 = decide (a.nat < b.nat) := by
  have h := sub4T_nat a b
  have h1 := (sub4T a b).1.nat_lt
  have hb := b.nat_lt
  cases e : (sub4T a b).2 with
  | true =>
    rw [e, Bool.toNat_true, Nat.mul_one] at h
    exact (decide_eq_true (by omega)).symm
  | false =>
    rw [e, Bool.toNat_false, Nat.mul_zero] at h
    exact (decide_eq_false (by omega)).symm
theorem qN_pos : 0 < qN := by decide +kernel
theorem add_mod_q {a b : Nat} (ha : a < qN) (hb : b < qN) : (a + b) % qN = if a + b < qN then a + b else a + b - qN := by
  split
  · rename_i h; exact Nat.mod_eq_of_lt h
  · rename_i h; rw [Nat.mod_eq_sub_mod (by omega), Nat.mod_eq_of_lt (by omega)]
/-- The modulus taken away once, of a number and a limb on top. -/
theorem reduce4 (t : Fr) (c : Nat) (hc : c ≤ 1) (h : t.nat + r4N * c < 2 * qN) : ((c = 1 ∨ ¬ t.nat < qN) → (sub4T t rLimbs).1.nat = (t.nat + r4N * c) % qN) ∧ ((c = 0 ∧ t.nat < qN) → t.nat = (t.nat + r4N * c) % qN) := by
  have h1 := sub4T_nat t rLimbs
  have h2 := borrow4_iff t rLimbs
  rw [rLimbs_nat] at h1 h2
  have h3 := t.nat_lt
  have h4 := (sub4T t rLimbs).1.nat_lt
  have hq : qN < r4N := by decide +kernel
  have hq2 : r4N < 3 * qN := by decide +kernel
  constructor
  · intro hh
    rcases Nat.lt_or_ge t.nat qN with hl | hl
    · have hc1 : c = 1 := hh.resolve_right (fun e => e hl)
      subst hc1
      rw [h2, decide_eq_true hl, Bool.toNat_true, Nat.mul_one] at h1
      rw [Nat.mul_one, Nat.mod_eq_sub_mod (by omega), Nat.mod_eq_of_lt (by omega)]
      omega
    · rw [h2, decide_eq_false (by omega), Bool.toNat_false, Nat.mul_zero] at h1
      have hc0 : c = 0 := by
        rcases Nat.eq_zero_or_pos c with e | e
        · exact e
        · have : c = 1 := by omega
          subst this
          omega
      subst hc0
      rw [Nat.mul_zero, Nat.add_zero] at h ⊢
      rw [Nat.mod_eq_sub_mod hl, Nat.mod_eq_of_lt (by omega)]
      omega
  · rintro ⟨rfl, hl⟩
    rw [Nat.mul_zero, Nat.add_zero, Nat.mod_eq_of_lt hl]
theorem addRF_nat {a b : Fr} (ha : a.nat < qN) (hb : b.nat < qN) : (addRF a b).nat = (a.nat + b.nat) % qN := by
  have h := add4T_nat a b
  have hc : (add4T a b).2.toNat ≤ 1 := by cases (add4T a b).2 <;> simp
  obtain ⟨r1, r2⟩ := reduce4 (add4T a b).1 (add4T a b).2.toNat hc (by omega)
  rw [h] at r1 r2
  unfold addRF plus4F
  cases e : (add4T a b).2 with
  | true => exact r1 (.inl (by rw [e]; rfl))
  | false =>
    rw [below4F_nat, rLimbs_nat]
    by_cases hl : (add4T a b).1.nat < qN
    · rw [decide_eq_true hl]
      exact r2 ⟨by rw [e]; rfl, hl⟩
    · rw [decide_eq_false hl]
      exact r1 (.inr hl)
theorem subRF_nat {a b : Fr} (ha : a.nat < qN) (hb : b.nat < qN) : (subRF a b).nat = (a.nat + qN - b.nat) % qN := by
  have h := sub4T_nat a b
  have hb2 := borrow4_iff a b
  have h3 := (sub4T a b).1.nat_lt
  unfold subRF minus4F
  by_cases hl : a.nat < b.nat
  · rw [decide_eq_true hl] at hb2
    rw [hb2] at h ⊢
    have h2 := add4T_nat (sub4T a b).1 rLimbs
    rw [rLimbs_nat] at h2
    have h4 := (add4T (sub4T a b).1 rLimbs).1.nat_lt
    have hc : (add4T (sub4T a b).1 rLimbs).2.toNat ≤ 1 := by cases (add4T (sub4T a b).1 rLimbs).2 <;> simp
    rw [Bool.toNat_true, Nat.mul_one] at h
    have hq : qN < r4N := by decide +kernel
    show (add4T (sub4T a b).1 rLimbs).1.nat = _
    rw [Nat.mod_eq_of_lt (by omega)]
    rcases Nat.eq_zero_or_pos (add4T (sub4T a b).1 rLimbs).2.toNat with e | e
    · rw [e, Nat.mul_zero] at h2; omega
    · have : (add4T (sub4T a b).1 rLimbs).2.toNat = 1 := by omega
      rw [this, Nat.mul_one] at h2
      omega
  · rw [decide_eq_false hl] at hb2
    rw [hb2] at h ⊢
    rw [Bool.toNat_false, Nat.mul_zero] at h
    show (sub4T a b).1.nat = _
    rw [show a.nat + qN - b.nat = (a.nat - b.nat) + qN by omega, Nat.add_mod_right, Nat.mod_eq_of_lt (by omega)]
    omega
theorem zeroFr_nat : zeroFr.nat = 0 := by decide +kernel
theorem oneFr_nat : oneFr.nat = 1 := by decide +kernel
theorem negRF_nat {a : Fr} (ha : a.nat < qN) : (negRF a).nat = (qN - a.nat) % qN := by
  have h : zeroFr.nat < qN := by rw [zeroFr_nat]; exact qN_pos
  show (subRF zeroFr a).nat = _
  rw [subRF_nat h ha, zeroFr_nat, Nat.zero_add]

/-! ## Montgomery's product -/
def L5.nat (t : L5) : Nat := t.t0.toNat + W64 * (t.t1.toNat + W64 * (t.t2.toNat + W64 * (t.t3.toNat + W64 * (t.t4.toNat))))
theorem L5.nat_low (t : L5) : t.nat = t.low.nat + r4N * t.t4.toNat := by
  unfold L5.nat L5.low Fr.nat r4N W64
  simp only []
  omega
def q0N : Nat := 18446744069414584321
def rInv4 : UInt64 := 0xfffffffeffffffff
theorem mont4_inv : montInv rLimbs.l0 = rInv4 := by decide +kernel
theorem low4_step (t : UInt64) : (mulHi (t * rInv4) rLimbs.l0 + b2u (addC t (t * rInv4 * rLimbs.l0) false)).toNat * W64 = (t * rInv4).toNat * rLimbs.l0.toNat + t.toNat := by
  generalize hx : t * rInv4 = x
  have hx' : x.toNat = t.toNat * 18446744069414584319 % 18446744073709551616 := by rw [← hx, UInt64.toNat_mul]; rfl
  have hp : rLimbs.l0.toNat = 18446744069414584321 := rfl
  have ht := t.toNat_lt
  have hlt := x.toNat_lt
  rw [UInt64.toNat_add, b2u_nat, addC_nat, mulHi_nat, UInt64.toNat_mul, hp]
  rw [Bool.toNat_false, Nat.add_zero]
  unfold W64
  have key : (x.toNat * 18446744069414584321 % 18446744073709551616 + t.toNat) % 18446744073709551616 = 0 := by
    rw [hx']
    omega
  omega
theorem rmw (x y t c : UInt64) : (rmH x y t c).toNat * W64 + (rmL x y t c).toNat = x.toNat * y.toNat + t.toNat + c.toNat := by rw [rmH_eq, rmL_eq]; exact mac_w x y t c
theorem mont4B_nat (t0 t1 t2 t3 top : UInt64) (more : Bool) :
    (mont4B rLimbs rInv4 t0 t1 t2 t3 top more).nat * W64 = (t0.toNat + W64 * (t1.toNat + W64 * (t2.toNat + W64 * (t3.toNat + W64 * (top.toNat + W64 * (more.toNat)))))) + (t0 * rInv4).toNat * qN := by
  have q0 := low4_step t0
  unfold mont4B
  simp only [L5.nat]
  generalize mulHi (t0 * rInv4) rLimbs.l0 + b2u (addC t0 (t0 * rInv4 * rLimbs.l0) false) = d0 at *
  generalize t0 * rInv4 = x at *
  have q1 := rmw x rLimbs.l1 t1 d0
  generalize rmH x rLimbs.l1 t1 d0 = d1 at *
  have q2 := rmw x rLimbs.l2 t2 d1
  generalize rmH x rLimbs.l2 t2 d1 = d2 at *
  have q3 := rmw x rLimbs.l3 t3 d2
  generalize rmH x rLimbs.l3 t3 d2 = d3 at *
  have q6 := add_step top d3 false
  have q7 : (b2u more + b2u (addC top d3 false)).toNat = more.toNat + (addC top d3 false).toNat := by
    rw [UInt64.toNat_add, b2u_nat, b2u_nat]
    cases more <;> cases addC top d3 false <;> rfl
  rw [q7]
  have ep : qN = rLimbs.l0.toNat + W64 * (rLimbs.l1.toNat + W64 * (rLimbs.l2.toNat + W64 * (rLimbs.l3.toNat))) := by decide +kernel
  have exp : x.toNat * qN = x.toNat * rLimbs.l0.toNat + W64 * (x.toNat * rLimbs.l1.toNat + W64 * (x.toNat * rLimbs.l2.toNat + W64 * (x.toNat * rLimbs.l3.toNat))) := by
    rw [ep]
    simp only [Nat.mul_add, Nat.mul_left_comm x.toNat W64]
  rw [exp]
  have s4 : (addS top d3 false).toNat + W64 * (more.toNat + (addC top d3 false).toNat) = (top.toNat + W64 * more.toNat) + d3.toNat := by
    simp only [Bool.toNat_false] at q6
    unfold W64 at *
    omega
  have s3 := limb_step q3 s4
  have s2 := limb_step q2 s3
  have s1 := limb_step q1 s2
  rw [s1]
  generalize x.toNat * rLimbs.l0.toNat = y0 at *
  generalize x.toNat * rLimbs.l1.toNat = y1 at *
  generalize x.toNat * rLimbs.l2.toNat = y2 at *
  generalize x.toNat * rLimbs.l3.toNat = y3 at *
  exact zipE (zipS (zipS (zip0 _ _ _))) q0
theorem mont4R_nat (b : Fr) (ai : UInt64) (t : L5) : ∃ m : Nat, m < W64 ∧ (mont4R rLimbs rInv4 ai b t).nat * W64 = t.nat + ai.toNat * b.nat + m * qN := by
  unfold mont4R
  simp only []
  have q0 := rmw ai b.l0 t.t0 0
  generalize rmH ai b.l0 t.t0 0 = c0 at *
  have q1 := rmw ai b.l1 t.t1 c0
  generalize rmH ai b.l1 t.t1 c0 = c1 at *
  have q2 := rmw ai b.l2 t.t2 c1
  generalize rmH ai b.l2 t.t2 c1 = c2 at *
  have q3 := rmw ai b.l3 t.t3 c2
  generalize rmH ai b.l3 t.t3 c2 = c3 at *
  have q6 := add_step t.t4 c3 false
  refine ⟨(rmL ai b.l0 t.t0 0 * rInv4).toNat, UInt64.toNat_lt _, ?_⟩
  rw [mont4B_nat]
  refine congrArg (fun z => z + (rmL ai b.l0 t.t0 0 * rInv4).toNat * qN) ?_
  have e : ai.toNat * b.nat = ai.toNat * b.l0.toNat + W64 * (ai.toNat * b.l1.toNat + W64 * (ai.toNat * b.l2.toNat + W64 * (ai.toNat * b.l3.toNat))) := by
    unfold Fr.nat
    simp only [Nat.mul_add, Nat.mul_left_comm ai.toNat W64]
  rw [e]
  have s4 : (addS t.t4 c3 false).toNat + W64 * (addC t.t4 c3 false).toNat = t.t4.toNat + c3.toNat := by simpa using q6
  have s3 := limb_step q3 s4
  have s2 := limb_step q2 s3
  have s1 := limb_step q1 s2
  have s0 := limb_step q0 s1
  rw [s0]
  have z : (0 : UInt64).toNat = 0 := rfl
  rw [z, L5.nat]
  generalize ai.toNat * b.l0.toNat = x0 at *
  generalize ai.toNat * b.l1.toNat = x1 at *
  generalize ai.toNat * b.l2.toNat = x2 at *
  generalize ai.toNat * b.l3.toNat = x3 at *
  rw [Nat.add_zero]
  exact zipS (zipS (zipS (zip0 _ _ _)))
theorem mont4R_bound {b : Fr} {ai : UInt64} {t : L5} (h : t.nat < b.nat + qN) : (mont4R rLimbs rInv4 ai b t).nat < b.nat + qN := by
  obtain ⟨m, hm, e⟩ := mont4R_nat b ai t
  have hb := ai.toNat_lt
  have h1 : ai.toNat * b.nat ≤ (W64 - 1) * b.nat := Nat.mul_le_mul_right _ (by unfold W64; omega)
  have h2 : m * qN ≤ (W64 - 1) * qN := Nat.mul_le_mul_right _ (by omega)
  have h3 : (mont4R rLimbs rInv4 ai b t).nat * W64 < (b.nat + qN) * W64 := by
    rw [e]
    unfold W64 at *
    omega
  exact Nat.lt_of_mul_lt_mul_right h3
set_option maxRecDepth 100000 in
/-- Four rounds. -/
theorem mont4T_nat (a b : Fr) : ∃ k : Nat, (mont4_4 a b rLimbs).nat * r4N = a.nat * b.nat + k * qN ∧ (mont4_4 a b rLimbs).nat < b.nat + qN := by
  have hp0 : 0 < qN := qN_pos
  obtain ⟨m0, _, e0⟩ := mont4R_nat b a.l0 ⟨0, 0, 0, 0, 0⟩
  obtain ⟨m1, _, e1⟩ := mont4R_nat b a.l1 (mont4_1 a b rLimbs)
  obtain ⟨m2, _, e2⟩ := mont4R_nat b a.l2 (mont4_2 a b rLimbs)
  obtain ⟨m3, _, e3⟩ := mont4R_nat b a.l3 (mont4_3 a b rLimbs)
  have z : (L5.mk 0 0 0 0 0).nat = 0 := by decide +kernel
  have b0 : (mont4_1 a b rLimbs).nat < b.nat + qN := by unfold mont4_1; rw [mont4_inv]; exact mont4R_bound (by rw [z]; omega)
  have b1 : (mont4_2 a b rLimbs).nat < b.nat + qN := by unfold mont4_2; rw [mont4_inv]; exact mont4R_bound b0
  have b2 : (mont4_3 a b rLimbs).nat < b.nat + qN := by unfold mont4_3; rw [mont4_inv]; exact mont4R_bound b1
  have b3 : (mont4_4 a b rLimbs).nat < b.nat + qN := by unfold mont4_4; rw [mont4_inv]; exact mont4R_bound b2
  refine ⟨m0 + W64 * (m1 + W64 * (m2 + W64 * (m3))), ?_, b3⟩
  rw [z] at e0
  rw [show mont4R rLimbs rInv4 a.l0 b ⟨0, 0, 0, 0, 0⟩ = mont4_1 a b rLimbs by unfold mont4_1; rw [mont4_inv]] at e0
  rw [show mont4R rLimbs rInv4 a.l1 b (mont4_1 a b rLimbs) = mont4_2 a b rLimbs by unfold mont4_2; rw [mont4_inv]] at e1
  rw [show mont4R rLimbs rInv4 a.l2 b (mont4_2 a b rLimbs) = mont4_3 a b rLimbs by unfold mont4_3; rw [mont4_inv]] at e2
  rw [show mont4R rLimbs rInv4 a.l3 b (mont4_3 a b rLimbs) = mont4_4 a b rLimbs by unfold mont4_4; rw [mont4_inv]] at e3
  have er : r4N = W64 * (W64 * (W64 * W64)) := by decide +kernel
  have eb : a.nat * b.nat = a.l0.toNat * b.nat + W64 * (a.l1.toNat * b.nat + W64 * (a.l2.toNat * b.nat + W64 * (a.l3.toNat * b.nat))) := by
    rw [show a.nat = a.l0.toNat + W64 * (a.l1.toNat + W64 * (a.l2.toNat + W64 * (a.l3.toNat))) from rfl]
    simp only [Nat.add_mul, Nat.mul_assoc]
  have ek : (m0 + W64 * (m1 + W64 * (m2 + W64 * (m3)))) * qN = m0 * qN + W64 * (m1 * qN + W64 * (m2 * qN + W64 * (m3 * qN))) := by
    simp only [Nat.add_mul, Nat.mul_assoc]
  rw [er, eb, ek]
  have st : ∀ {t' t z R : Nat}, t' * W64 = t + z → ∀ s : Nat, t' * (W64 * s) = (t + z) * s := fun h s => by rw [← Nat.mul_assoc, h]
  rw [st (R := 0) (t := (mont4_3 a b rLimbs).nat) (z := a.l3.toNat * b.nat + m3 * qN) (by rw [e3, Nat.add_assoc])]
  rw [Nat.add_mul, st (R := 0) (t := (mont4_2 a b rLimbs).nat) (z := a.l2.toNat * b.nat + m2 * qN) (by rw [e2, Nat.add_assoc])]
  rw [Nat.add_mul _ _ (W64 * W64), st (R := 0) (t := (mont4_1 a b rLimbs).nat) (z := a.l1.toNat * b.nat + m1 * qN) (by rw [e1, Nat.add_assoc])]
  rw [Nat.add_mul _ _ W64, e0]
  generalize a.l0.toNat * b.nat = x0
  generalize a.l1.toNat * b.nat = x1
  generalize a.l2.toNat * b.nat = x2
  generalize a.l3.toNat * b.nat = x3
  generalize m0 * qN = y0
  generalize m1 * qN = y1
  generalize m2 * qN = y2
  generalize m3 * qN = y3
  clear e0 e1 e2 e3 eb ek st
  unfold W64
  omega
theorem mont4X_nat (t : L5) (h6 : t.t4.toNat ≤ 1) (h : t.low.nat + r4N * t.t4.toNat < 2 * qN) : (mont4X rLimbs t).nat = (t.low.nat + r4N * t.t4.toNat) % qN := by
  obtain ⟨r1, r2⟩ := reduce4 t.low t.t4.toNat h6 h
  unfold mont4X
  cases e : t.t4 != 0 with
  | true =>
    have := u64_ne.1 e
    rw [show (0 : UInt64).toNat = 0 from rfl] at this
    exact r1 (.inl (by omega))
  | false =>
    rw [bne_eq_false_iff_eq] at e
    have e0 : t.t4.toNat = 0 := by rw [e]; rfl
    rw [below4F_nat, rLimbs_nat]
    by_cases hl : t.low.nat < qN
    · rw [decide_eq_true hl]
      exact r2 ⟨e0, hl⟩
    · rw [decide_eq_false hl]
      exact r1 (.inr hl)
theorem qN_r4 : qN < r4N := by decide +kernel
theorem mont4F_nat {a b : Fr} (hb : b.nat < qN) : (mont4F a b rLimbs).nat < qN ∧ ((mont4F a b rLimbs).nat * r4N) % qN = (a.nat * b.nat) % qN := by
  obtain ⟨k, h1, h2⟩ := mont4T_nat a b
  unfold mont4F
  generalize mont4_4 a b rLimbs = t at *
  rw [L5.nat_low] at h1 h2
  have hlt := t.low.nat_lt
  have hq3 := qN_r4
  have h6 : t.t4.toNat ≤ 1 := by
    rcases Nat.lt_or_ge t.t4.toNat 2 with h | h
    · omega
    · have : r4N * 2 ≤ r4N * t.t4.toNat := Nat.mul_le_mul_left _ h
      omega
  rw [mont4X_nat t h6 (by omega)]
  refine ⟨Nat.mod_lt _ qN_pos, ?_⟩
  rw [Nat.mod_mul_mod, h1, Nat.add_mul_mod_self_right]
def r4Inv : Nat := 0x1bbe869330009d577204078a4f77266aab6fca8f09dc705f13f75b69fe75c040
theorem r4_inv : r4N * r4Inv % qN = 1 := by decide +kernel
theorem r4_cancel {x y : Nat} (h : x * r4N % qN = y * r4N % qN) : x % qN = y % qN := by
  have e : ∀ z, z % qN = z * r4N % qN * r4Inv % qN := fun z => by
    rw [Nat.mod_mul_mod, Nat.mul_assoc, ← Nat.mul_mod_mod, r4_inv, Nat.mul_one]
  rw [e x, e y, h]
theorem sq4_nat : sq4Limbs.nat = r4N * r4N % qN := by decide +kernel
theorem mulRF_nat {a b : Fr} (hb : b.nat < qN) : (mulRF a b).nat = a.nat * b.nat % qN := by
  have hs : sq4Limbs.nat < qN := by rw [sq4_nat]; exact Nat.mod_lt _ qN_pos
  obtain ⟨h1, h2⟩ := mont4F_nat (a := a) hb
  obtain ⟨h3, h4⟩ := mont4F_nat (a := mont4F a b rLimbs) hs
  have e : (mulRF a b).nat % qN = a.nat * b.nat % qN := by
    refine r4_cancel ?_
    show (mont4F (mont4F a b rLimbs) sq4Limbs rLimbs).nat * r4N % qN = _
    rw [h4, sq4_nat, Nat.mul_mod_mod, ← Nat.mul_assoc, ← Nat.mod_mul_mod, h2, Nat.mod_mul_mod]
  rw [← e]
  exact (Nat.mod_eq_of_lt h3).symm
theorem mulRF_lt {a b : Fr} (hb : b.nat < qN) : (mulRF a b).nat < qN := by rw [mulRF_nat hb]; exact Nat.mod_lt _ qN_pos
theorem addRF_lt {a b : Fr} (ha : a.nat < qN) (hb : b.nat < qN) : (addRF a b).nat < qN := by rw [addRF_nat ha hb]; exact Nat.mod_lt _ qN_pos
theorem negRF_lt {a : Fr} (ha : a.nat < qN) : (negRF a).nat < qN := by rw [negRF_nat ha]; exact Nat.mod_lt _ qN_pos

end Go.Proofs.Ytchlamfdofpolaa
