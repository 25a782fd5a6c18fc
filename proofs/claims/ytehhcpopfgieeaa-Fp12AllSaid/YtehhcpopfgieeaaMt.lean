/- Products by half limbs. -/
import Derived.Test.YtehhcpopfgieeaaFu
set_option linter.unusedSimpArgs false
set_option linter.unusedVariables false
namespace Go.Proofs.Ytehhcpopfgieeaa

def D32 : Nat := 4294967296
def dval (xs : List UInt64) : Nat → Nat
  | 0 => 0
  | n + 1 => dval xs n + (atF xs n).toNat * D32 ^ n
def Dig (xs : List UInt64) : Prop := ∀ j, (atF xs j).toNat < D32

theorem shlU32_nat (x : UInt64) (h : x.toNat < D32) : (shlU x 32).toNat = x.toNat * D32 := by
  unfold shlU D32 at *
  rw [show min (32 : Int).toNat 64 = 32 from rfl, UInt64.toNat_ofNat']
  omega
theorem mask_nat (x : UInt64) : (x &&& 4294967295).toNat = x.toNat % D32 := by
  rw [UInt64.toNat_and]
  exact Nat.and_two_pow_sub_one_eq_mod x.toNat 32

theorem atF_set_eq {xs : List UInt64} {n : Nat} (h : n < xs.length) (v : UInt64) : atF (xs.set n v) n = v := by
  unfold atF
  rw [List.getD_eq_getElem?_getD, List.getElem?_set_self h]
  rfl
theorem dval_set_le (xs : List UInt64) (n : Nat) (v : UInt64) : ∀ {m : Nat}, m ≤ n → dval (xs.set n v) m = dval xs m
  | 0, _ => rfl
  | m + 1, h => by
    simp only [dval]
    rw [dval_set_le xs n v (m := m) (by omega), set_get xs n v (by omega)]
theorem dval_set {xs : List UInt64} {n : Nat} (h : n < xs.length) (v : UInt64) : ∀ {m : Nat}, n < m → dval (xs.set n v) m + (atF xs n).toNat * D32 ^ n = dval xs m + v.toNat * D32 ^ n
  | 0, h1 => by omega
  | m + 1, h1 => by
    simp only [dval]
    rcases Nat.lt_or_ge n m with h2 | h2
    · have ih := dval_set h v h2
      rw [set_get xs n v (by omega)]
      omega
    · have e : m = n := by omega
      subst e
      rw [dval_set_le xs m v (Nat.le_refl _), atF_set_eq h]
      omega
theorem dig_set {xs : List UInt64} (h : Dig xs) (n : Nat) {v : UInt64} (hv : v.toNat < D32) : Dig (xs.set n v) := fun j => by
  by_cases e : j = n
  · subst e
    by_cases hl : j < xs.length
    · rw [atF_set_eq hl]; exact hv
    · rw [atF_out (by rw [List.length_set]; omega)]; decide
  · rw [set_get xs n v e]; exact h j
theorem dval_out (l : List UInt64) : ∀ {k : Nat}, l.length ≤ k → dval l k = dval l l.length
  | 0, h => by rw [show l.length = 0 by omega]
  | k + 1, h => by
    rcases Nat.lt_or_ge k l.length with h1 | h1
    · rw [show l.length = k + 1 by omega]
    · simp only [dval]
      rw [dval_out l h1, atF_out h1]
      simp

/-! halves -/
theorem atF_app_lo {l m : List UInt64} {i : Nat} (h : i < l.length) : atF (l ++ m) i = atF l i := by
  unfold atF
  rw [List.getD_eq_getElem?_getD, List.getD_eq_getElem?_getD, List.getElem?_append_left h]
theorem atF_app_hi {l m : List UInt64} {i : Nat} (h : l.length ≤ i) : atF (l ++ m) i = atF m (i - l.length) := by
  unfold atF
  rw [List.getD_eq_getElem?_getD, List.getD_eq_getElem?_getD, List.getElem?_append_right h]
theorem dval_app {l m : List UInt64} : ∀ {k : Nat}, k ≤ l.length → dval (l ++ m) k = dval l k
  | 0, _ => rfl
  | k + 1, h => by
    simp only [dval]
    rw [dval_app (k := k) (by omega), atF_app_lo (by omega)]
theorem hvs_dig (xs : List UInt64) : ∀ k, Dig (hvsAt xs k)
  | 0, j => by rw [atF_out (Nat.zero_le _)]; decide
  | k + 1, j => by
    simp only [hvsAt]
    rcases Nat.lt_or_ge j (hvsAt xs k).length with h | h
    · rw [atF_app_lo h]; exact hvs_dig xs k j
    · rw [atF_app_hi h]
      generalize j - (hvsAt xs k).length = i
      match i with
      | 0 => show (atF xs k &&& 4294967295).toNat < _; rw [mask_nat]; exact Nat.mod_lt _ (by decide)
      | 1 =>
        show (shrU (atF xs k) 32).toNat < _
        rw [shrU32_nat]
        have := (atF xs k).toNat_lt
        unfold D32
        omega
      | i + 2 => rw [atF_out (by simp)]; decide
theorem D32_two (k : Nat) : D32 ^ (2 * k) = W64 ^ k := by rw [Nat.pow_mul]; rfl
theorem hvs_val (xs : List UInt64) : ∀ k, dval (hvsAt xs k) (2 * k) = valAt xs k
  | 0 => rfl
  | k + 1 => by
    have hl := hvsAt_len xs k
    rw [show 2 * (k + 1) = 2 * k + 1 + 1 by omega]
    simp only [dval, hvsAt, valAt]
    rw [dval_app (by omega), hvs_val xs k, atF_app_hi (by omega), atF_app_hi (by omega), hl, Nat.sub_self, show 2 * k + 1 - 2 * k = 1 by omega]
    have e0 : (atF [atF xs k &&& 4294967295, shrU (atF xs k) 32] 0).toNat = (atF xs k).toNat % D32 := mask_nat _
    have e1 : (atF [atF xs k &&& 4294967295, shrU (atF xs k) 32] 1).toNat = (atF xs k).toNat / D32 := shrU32_nat _
    rw [e0, e1, Nat.pow_succ, D32_two, Nat.add_assoc, ← Nat.mul_assoc, Nat.mul_right_comm, ← Nat.add_mul]
    have := Nat.mod_add_div (atF xs k).toNat D32
    rw [Nat.mul_comm D32] at this
    rw [this]

/-! rows -/
def rowAt (x : UInt64) (ys : List UInt64) (i : Nat) (acc : List UInt64) : Nat → List UInt64 × UInt64
  | 0 => (acc, 0)
  | k + 1 => ((rowAt x ys i acc k).1.set (i + k) ((atF (rowAt x ys i acc k).1 (i + k) + (rowAt x ys i acc k).2 + x * atF ys k) &&& 4294967295), shrU (atF (rowAt x ys i acc k).1 (i + k) + (rowAt x ys i acc k).2 + x * atF ys k) 32)
def rowMore (ly i : Nat) (p : List UInt64 × UInt64) : List UInt64 := p.1.set (i + ly) ((atF p.1 (i + ly) + p.2) &&& 4294967295)
def rowEnd (x : UInt64) (ys : List UInt64) (i : Nat) (acc : List UInt64) : List UInt64 := match decide (0 < (rowAt x ys i acc ys.length).2) with
  | true => rowMore ys.length i (rowAt x ys i acc ys.length)
  | false => (rowAt x ys i acc ys.length).1

structure RowPre (x : UInt64) (ys : List UInt64) (i : Nat) (acc : List UInt64) : Prop where
  dig : Dig acc
  small : x.toNat < D32
  digs : Dig ys
  room : i + ys.length < acc.length
  zero : ∀ j, i + ys.length ≤ j → atF acc j = 0

theorem step_nat {a c x y : UInt64} (ha : a.toNat < D32) (hc : c.toNat < D32) (hx : x.toNat < D32) (hy : y.toNat < D32) : (a + c + x * y).toNat = a.toNat + c.toNat + x.toNat * y.toNat := by
  have h1 : x.toNat * y.toNat ≤ (D32 - 1) * (D32 - 1) := Nat.mul_le_mul (by omega) (by omega)
  unfold D32 at *
  rw [UInt64.toNat_add, UInt64.toNat_add, UInt64.toNat_mul]
  omega
theorem step_lt {a c x y : UInt64} (ha : a.toNat < D32) (hc : c.toNat < D32) (hx : x.toNat < D32) (hy : y.toNat < D32) : a.toNat + c.toNat + x.toNat * y.toNat < D32 * D32 := by
  have h1 : x.toNat * y.toNat ≤ (D32 - 1) * (D32 - 1) := Nat.mul_le_mul (by omega) (by omega)
  unfold D32 at *
  omega

theorem rowAt_spec {x : UInt64} {ys : List UInt64} {i : Nat} {acc : List UInt64} (h : RowPre x ys i acc) : ∀ k, k ≤ ys.length →
    (rowAt x ys i acc k).1.length = acc.length ∧ Dig (rowAt x ys i acc k).1 ∧ (rowAt x ys i acc k).2.toNat < D32 ∧ (∀ j, i + k ≤ j → atF (rowAt x ys i acc k).1 j = atF acc j) ∧
    dval (rowAt x ys i acc k).1 acc.length + (rowAt x ys i acc k).2.toNat * D32 ^ (i + k) = dval acc acc.length + x.toNat * dval ys k * D32 ^ i
  | 0, _ => ⟨rfl, h.dig, (by decide : 0 < 4294967296), fun _ _ => rfl, by simp [rowAt, dval]⟩
  | k + 1, hk => by
    obtain ⟨h1, h2, h3, h4, h5⟩ := rowAt_spec h k (by omega)
    have hr := h.room
    have hs := step_nat (h2 (i + k)) h3 h.small (h.digs k)
    have hlt := step_lt (h2 (i + k)) h3 h.small (h.digs k)
    simp only [rowAt]
    have hin : i + k < (rowAt x ys i acc k).1.length := by omega
    refine ⟨by rw [List.length_set, h1], dig_set h2 _ (by rw [mask_nat]; exact Nat.mod_lt _ (by decide)), ?_, fun j hj => ?_, ?_⟩
    · rw [shrU32_nat, hs]
      exact Nat.div_lt_of_lt_mul hlt
    · rw [set_get _ _ _ (by omega), h4 j (by omega)]
    · have e := dval_set hin ((atF (rowAt x ys i acc k).1 (i + k) + (rowAt x ys i acc k).2 + x * atF ys k) &&& 4294967295) (m := acc.length) (by omega)
      rw [mask_nat, hs] at e
      rw [shrU32_nat, hs]
      generalize (atF (rowAt x ys i acc k).1 (i + k)).toNat = A at *
      generalize (rowAt x ys i acc k).2.toNat = C at *
      generalize dval ((rowAt x ys i acc k).1.set (i + k) ((atF (rowAt x ys i acc k).1 (i + k) + (rowAt x ys i acc k).2 + x * atF ys k) &&& 4294967295)) acc.length = V' at *
      generalize dval (rowAt x ys i acc k).1 acc.length = V at *
      simp only [dval]
      generalize dval acc acc.length = V0 at *
      have hd := Nat.mod_add_div (A + C + x.toNat * (atF ys k).toNat) D32
      have e1 : (A + C + x.toNat * (atF ys k).toNat) % D32 * D32 ^ (i + k) + (A + C + x.toNat * (atF ys k).toNat) / 4294967296 * D32 ^ (i + (k + 1)) = A * D32 ^ (i + k) + C * D32 ^ (i + k) + x.toNat * (atF ys k).toNat * D32 ^ (i + k) := by
        rw [← Nat.add_assoc i k 1, Nat.pow_succ, Nat.mul_comm (D32 ^ (i + k)) D32, ← Nat.mul_assoc, ← Nat.add_mul, ← Nat.add_mul, ← Nat.add_mul]
        refine congrArg (· * D32 ^ (i + k)) ?_
        rw [Nat.mul_comm _ D32]
        exact hd
      have e2 : x.toNat * (dval ys k + (atF ys k).toNat * D32 ^ k) * D32 ^ i = x.toNat * dval ys k * D32 ^ i + x.toNat * (atF ys k).toNat * D32 ^ (i + k) := by
        rw [Nat.mul_add, Nat.add_mul, Nat.pow_add, Nat.mul_comm (D32 ^ i)]
        simp only [Nat.mul_assoc]
      rw [e2]
      omega

theorem more_zero {x : UInt64} {ys : List UInt64} {i : Nat} {acc : List UInt64} (h : RowPre x ys i acc) : atF (rowAt x ys i acc ys.length).1 (i + ys.length) = 0 := by
  obtain ⟨_, _, _, h4, _⟩ := rowAt_spec h ys.length (Nat.le_refl _)
  rw [h4 _ (Nat.le_refl _), h.zero _ (Nat.le_refl _)]
theorem more_carry {x : UInt64} {ys : List UInt64} {i : Nat} {acc : List UInt64} (h : RowPre x ys i acc) : shrU (atF (rowAt x ys i acc ys.length).1 (i + ys.length) + (rowAt x ys i acc ys.length).2) 32 = 0 := by
  obtain ⟨_, _, h3, _, _⟩ := rowAt_spec h ys.length (Nat.le_refl _)
  rw [more_zero h]
  refine UInt64.toNat.inj ?_
  rw [shrU32_nat, UInt64.zero_add]
  exact Nat.div_eq_of_lt h3

theorem rowEnd_spec {x : UInt64} {ys : List UInt64} {i : Nat} {acc : List UInt64} (h : RowPre x ys i acc) :
    (rowEnd x ys i acc).length = acc.length ∧ Dig (rowEnd x ys i acc) ∧ (∀ j, i + ys.length + 1 ≤ j → atF (rowEnd x ys i acc) j = 0) ∧
    dval (rowEnd x ys i acc) acc.length = dval acc acc.length + x.toNat * dval ys ys.length * D32 ^ i := by
  obtain ⟨h1, h2, h3, h4, h5⟩ := rowAt_spec h ys.length (Nat.le_refl _)
  have hr := h.room
  have hz := more_zero h
  unfold rowEnd
  by_cases hc : 0 < (rowAt x ys i acc ys.length).2
  · rw [decide_eq_true hc]
    show (rowMore _ _ _).length = _ ∧ Dig (rowMore _ _ _) ∧ (∀ j, _ → atF (rowMore _ _ _) j = 0) ∧ dval (rowMore _ _ _) _ = _
    unfold rowMore
    have e := dval_set (xs := (rowAt x ys i acc ys.length).1) (n := i + ys.length) (by omega) ((atF (rowAt x ys i acc ys.length).1 (i + ys.length) + (rowAt x ys i acc ys.length).2) &&& 4294967295) (m := acc.length) (by omega)
    refine ⟨by rw [List.length_set, h1], dig_set h2 _ (by rw [mask_nat]; exact Nat.mod_lt _ (by decide)), fun j hj => ?_, ?_⟩
    · rw [set_get _ _ _ (by omega), h4 j (by omega), h.zero j (by omega)]
    · rw [mask_nat, hz, UInt64.zero_add, Nat.mod_eq_of_lt h3] at e
      rw [hz, UInt64.zero_add, ← h5]
      simpa using e
  · rw [decide_eq_false hc]
    have h0 : (rowAt x ys i acc ys.length).2.toNat = 0 := by
      rw [UInt64.lt_iff_toNat_lt] at hc
      have : (0 : UInt64).toNat = 0 := rfl
      omega
    refine ⟨h1, h2, fun j hj => by show atF (rowAt x ys i acc ys.length).1 j = 0; rw [h4 j (by omega), h.zero j (by omega)], ?_⟩
    show dval (rowAt x ys i acc ys.length).1 _ = _
    rw [h0, Nat.zero_mul, Nat.add_zero] at h5
    exact h5

def accAt (xs ys : List UInt64) : Nat → List UInt64
  | 0 => List.replicate (xs.length + ys.length + 1) 0
  | i + 1 => rowEnd (atF xs i) ys i (accAt xs ys i)

theorem atF_rep (n j : Nat) : atF (List.replicate n 0) j = 0 := by
  unfold atF
  rw [List.getD_eq_getElem?_getD, List.getElem?_replicate]
  split <;> rfl
theorem dval_rep (n : Nat) : ∀ m, dval (List.replicate n 0) m = 0
  | 0 => rfl
  | m + 1 => by
    simp only [dval]
    rw [dval_rep n m, atF_rep]
    simp

theorem accAt_spec {xs ys : List UInt64} (hx : Dig xs) (hy : Dig ys) : ∀ i, i ≤ xs.length →
    (accAt xs ys i).length = xs.length + ys.length + 1 ∧ Dig (accAt xs ys i) ∧ (∀ j, i + ys.length ≤ j → atF (accAt xs ys i) j = 0) ∧ dval (accAt xs ys i) (xs.length + ys.length + 1) = dval xs i * dval ys ys.length
  | 0, _ => ⟨by simp only [accAt, List.length_replicate], fun j => by simp only [accAt]; rw [atF_rep]; decide, fun j _ => by simp only [accAt]; exact atF_rep _ j, by simp only [accAt]; rw [dval_rep]; exact (Nat.zero_mul _).symm⟩
  | i + 1, hi => by
    obtain ⟨h1, h2, h3, h4⟩ := accAt_spec hx hy i (by omega)
    have hp : RowPre (atF xs i) ys i (accAt xs ys i) := ⟨h2, hx i, hy, by omega, h3⟩
    obtain ⟨k1, k2, k3, k4⟩ := rowEnd_spec hp
    refine ⟨by simp only [accAt]; rw [k1, h1], k2, fun j hj => k3 j (by omega), ?_⟩
    rw [h1, h4] at k4
    show dval (rowEnd (atF xs i) ys i (accAt xs ys i)) _ = (dval xs i + (atF xs i).toNat * D32 ^ i) * dval ys ys.length
    rw [k4, Nat.add_mul]
    refine congrArg (dval xs i * dval ys ys.length + ·) ?_
    rw [Nat.mul_right_comm]
theorem acc_pre {xs ys : List UInt64} (hx : Dig xs) (hy : Dig ys) {i : Nat} (hi : i < xs.length) : RowPre (atF xs i) ys i (accAt xs ys i) := by
  obtain ⟨h1, h2, h3, h4⟩ := accAt_spec hx hy i (by omega)
  exact ⟨h2, hx i, hy, by omega, h3⟩

/-! limbs of half limbs -/
def pairV (acc : List UInt64) (k : Nat) : UInt64 := match decide (2 * k + 1 < acc.length) with
  | true => atF acc (2 * k) + shlU (atF acc (2 * k + 1)) 32
  | false => atF acc (2 * k)
def packAt (acc : List UInt64) : Nat → List UInt64
  | 0 => []
  | k + 1 => packAt acc k ++ [pairV acc k]
theorem packAt_len (acc : List UInt64) : ∀ k, (packAt acc k).length = k
  | 0 => rfl
  | k + 1 => by simp only [packAt, List.length_append, packAt_len acc k, List.length_singleton]
theorem pairV_nat {acc : List UInt64} (h : Dig acc) (k : Nat) : (pairV acc k).toNat = (atF acc (2 * k)).toNat + (atF acc (2 * k + 1)).toNat * D32 := by
  have h0 := h (2 * k)
  have h1 := h (2 * k + 1)
  unfold pairV
  by_cases hc : 2 * k + 1 < acc.length
  · rw [decide_eq_true hc]
    show (_ + _ : UInt64).toNat = _
    rw [UInt64.toNat_add, shlU32_nat _ h1]
    unfold D32 at *
    omega
  · rw [decide_eq_false hc, atF_out (l := acc) (i := 2 * k + 1) (by omega)]
    simp
theorem packAt_val {acc : List UInt64} (h : Dig acc) : ∀ k, valAt (packAt acc k) k = dval acc (2 * k)
  | 0 => rfl
  | k + 1 => by
    rw [show 2 * (k + 1) = 2 * k + 1 + 1 by omega]
    simp only [packAt, dval]
    rw [valAt_snoc _ (packAt_len acc k).symm, packAt_val h k, pairV_nat h, Nat.pow_succ, D32_two, Nat.add_mul, Nat.mul_assoc _ D32, Nat.mul_comm D32]
    omega

def timesF (a b : List UInt64) : List UInt64 := cutF (packAt (accAt (rhvsF a) (rhvsF b) (rhvsF a).length) (((rhvsF a).length + (rhvsF b).length + 2) / 2))
theorem rhvs_len (a : List UInt64) : (rhvsF a).length = 2 * a.length := hvsAt_len a _
theorem rhvs_dval (a : List UInt64) : dval (rhvsF a) (rhvsF a).length = valL a := by
  rw [rhvs_len]
  exact hvs_val a _
theorem timesF_val (a b : List UInt64) : valL (timesF a b) = valL a * valL b := by
  obtain ⟨h1, h2, h3, h4⟩ := accAt_spec (hvs_dig a a.length) (hvs_dig b b.length) (rhvsF a).length (Nat.le_refl _)
  have h4 : dval (accAt (rhvsF a) (rhvsF b) (rhvsF a).length) ((rhvsF a).length + (rhvsF b).length + 1) = dval (rhvsF a) (rhvsF a).length * dval (rhvsF b) (rhvsF b).length := h4
  have h1 : (accAt (rhvsF a) (rhvsF b) (rhvsF a).length).length = (rhvsF a).length + (rhvsF b).length + 1 := h1
  unfold timesF
  rw [valL_cut]
  have e : ∀ k, valL (packAt (accAt (rhvsF a) (rhvsF b) (rhvsF a).length) k) = dval (accAt (rhvsF a) (rhvsF b) (rhvsF a).length) (2 * k) := fun k => by
    unfold valL
    rw [packAt_len]
    exact packAt_val h2 k
  rw [e, dval_out _ (by rw [h1]; omega), h1, h4, rhvs_dval, rhvs_dval]
theorem normal_times (a b : List UInt64) : Normal (timesF a b) := cutF_idem _

end Go.Proofs.Ytehhcpopfgieeaa
