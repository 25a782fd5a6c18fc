/- FpBytes: the law, and what its function gives. -/
import Derived.Test.YtfkmooldindfjaaFzb
set_option linter.unusedSimpArgs false
set_option linter.unusedVariables false
namespace Go.Proofs.Ytfkmooldindfjaa
open Go.RowKit

def lbyG (mpF : Fp → Bool) (q1 q2 : Fp → List UInt8) (t1 t2 : List UInt8 → Fp × Int) (a : Fp) (e : List UInt8) : Bool :=
  decide ((e.length : Int) > 100) || !mpF a || ((q1 a == q2 a) && fpEq (t1 e).1 (t2 e).1 && ((t1 e).2 == (t2 e).2) && ((t1 (q1 a)).2 == 0) && fpEq (t1 (q1 a)).1 a)
theorem lby_gives (hb : CallOk Try.prog 9 (Kb true))
    (h : ∀ (a : Fp) (e : List UInt8), lbyG mayPF fputF fputF ftakeF rftakeF a e = true)
    (a : Fp) {w : World} {v : Value} {e : List UInt8} (he : SlIs eU8 w v e) : Gives Try.prog 8 #[rowV a, v] w kBool.rs.res true :=
  G2g (E := lbyE true mayPF fputF fputF ftakeF rftakeF) Try.func8 (c := codeOf Try.f8) (by kernel_rfl) (kRow Fp).inp iB oB true (x := a) rfl he fun _ hl => by
    have hl : e.length < 1125899906842624 := hl
    have hf := fput_len a
    have k1 : ∀ {l : List UInt8}, l.length < 16777216 → (0 + l.length ≤ l.length ∧ l.length < 1125899906842624 ∧ 0 = 0 ∧ 1 = 1) ∧ littleB (List.take l.length (List.drop 0 l)) := fun h => ⟨okLB (by omega), by rw [whole8]; exact h⟩
    refine DoesL.ends (Ens_ok (.cons hb (.cons mayP_ok (.cons fput_ok (.cons rfput_ok (.cons ftake_ok (.cons rftake_ok .nil))))))) 300 (lby_run true mayPF fputF fputF ftakeF rftakeF a e) (Tree.law_sat (lby_law _ _ _ _ _ _ _ _ _ _ _ _ ?_) (lby_vc (vcLenB e) (fun hc => k1 ?_) (k1 (by omega)) (by omega) (by omega)))
    · rw [whole8, whole8]
      exact h a e
    · have hc := of_decide_eq_false hc
      omega

/-! the law -/

def bsum (c : List UInt64) : Nat → Nat
  | 0 => 0
  | n + 1 => bsum c n + (byteAt c n).toNat * 256 ^ n
theorem byteAt_nat (c : List UInt64) (j : Nat) : (byteAt c j).toNat = (atF c (j / 8)).toNat / 256 ^ (j % 8) % 256 := by
  have hs : j % 8 < 8 := Nat.mod_lt _ (by decide)
  have hx := (atF c (j / 8)).toNat_lt
  unfold byteAt shrU
  rw [UInt64.toNat_toUInt8, Int.toNat_natCast, Nat.min_eq_left (by omega), UInt64.toNat_ofNat', Nat.pow_mul]
  rw [Nat.mod_eq_of_lt (Nat.lt_of_le_of_lt (Nat.div_le_self _ _) hx)]
theorem bsum_in (c : List UInt64) (k : Nat) (hk : bsum c (8 * k) = valAt c k) : ∀ s, s ≤ 8 → bsum c (8 * k + s) = valAt c k + (atF c k).toNat % 256 ^ s * 256 ^ (8 * k)
  | 0, _ => by rw [Nat.add_zero, hk, Nat.pow_zero, Nat.mod_one, Nat.zero_mul, Nat.add_zero]
  | s + 1, h => by
    rw [show 8 * k + (s + 1) = (8 * k + s) + 1 from rfl]
    simp only [bsum]
    rw [bsum_in c k hk s (by omega), byteAt_nat, show (8 * k + s) / 8 = k by omega, show (8 * k + s) % 8 = s by omega, Nat.pow_succ 256 s, Nat.mod_mul, Nat.add_mul, Nat.add_assoc, Nat.pow_add 256 (8 * k) s, Nat.mul_comm (256 ^ (8 * k)) (256 ^ s), ← Nat.mul_assoc, Nat.mul_comm (256 ^ s) (_ % 256)]
theorem bsum_val (c : List UInt64) : ∀ k, bsum c (8 * k) = valAt c k
  | 0 => rfl
  | k + 1 => by
    rw [show 8 * (k + 1) = 8 * k + 8 by omega, bsum_in c k (bsum_val c k) 8 (Nat.le_refl _)]
    simp only [valAt]
    rw [Nat.mod_eq_of_lt (show (atF c k).toNat < 256 ^ 8 from UInt64.toNat_lt _), Nat.pow_mul]
    rfl
theorem bAt_full (c : List UInt64) {n t : Nat} (h : t < n) : bAt (fullB c n) t = byteAt c (n - 1 - t) := by
  unfold bAt
  rw [List.getD_eq_getElem?_getD, List.getElem?_eq_getElem (by rw [fullB_len]; exact h)]
  simp [fullB]
theorem bval_full (c : List UInt64) (n : Nat) : ∀ k, k ≤ n → bval (fullB c n) k = bsum c k
  | 0, _ => rfl
  | k + 1, h => by
    simp only [bval, bsum]
    rw [bval_full c n k (by omega), fullB_len, bAt_full c (by omega), show n - 1 - (n - 1 - k) = k by omega]

theorem fput_full (a : Fp) : fputF a = fullB (cutF a.list) 48 := by
  have hl : (cutF a.list).length ≤ 6 := Nat.le_trans (cutF_len a.list) (Nat.le_of_eq (fp_short a))
  unfold fputF putF
  rw [if_neg (by decide), if_neg (by decide)]
  show (putO (cutF a.list) 48).1 = _
  rw [putO_done (overB_low (by omega))]
theorem fput_val (a : Fp) : bval (fputF a) 48 = a.nat := by
  have hl : (cutF a.list).length ≤ 6 := Nat.le_trans (cutF_len a.list) (Nat.le_of_eq (fp_short a))
  rw [fput_full, bval_full _ 48 48 (Nat.le_refl _), show (48 : Nat) = 8 * 6 from rfl, bsum_val, valAt_out _ hl, valL_cut, valL_list]
theorem fput_len' (a : Fp) : (fputF a).length = 48 := by rw [fput_full, fullB_len]
theorem pN_six : pN < W64 ^ 6 := by decide +kernel
theorem take_put {a : Fp} (ha : a.ok) : ftakeF (fputF a) = (a, 0) := by
  have hv : valL (takF (fputF a)) = a.nat := by rw [takF_val, fput_len', fput_val]
  have hlt : a.nat < pN := ha
  have hl : (takF (fputF a)).length ≤ 6 := normal_len (xs := takF (fputF a)) (cutF_idem _) (by rw [hv]; exact Nat.lt_trans hlt pN_six)
  have e : ofL (takF (fputF a)) = a := Fp.nat_inj (by rw [ofL_val hl, hv])
  unfold ftakeF
  rw [e, (mayF_ok a).2 ha, fput_len']
  rfl
theorem take_eq (b : List UInt8) : ftakeF b = rftakeF b := by
  unfold ftakeF rftakeF
  rw [takF_eq, mayF_nat, mayPF_nat]
theorem bytes_law (a : Fp) (e : List UInt8) : lbyG mayPF fputF fputF ftakeF rftakeF a e = true := by
  unfold lbyG
  cases hm : mayPF a with
  | false => simp
  | true =>
    have ha := (mayPF_ok a).1 hm
    rw [take_put ha, ← take_eq e, (fpEq_iff _ _).2 rfl, (fpEq_iff _ _).2 rfl, beq_self_eq_true, beq_self_eq_true]
    simp

end Go.Proofs.Ytfkmooldindfjaa
