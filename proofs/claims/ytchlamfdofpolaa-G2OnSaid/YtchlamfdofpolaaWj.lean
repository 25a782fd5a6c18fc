/- The statement G2On: its plain law. -/
import Derived.Test.YtchlamfdofpolaaWf
import Derived.Test.YtchlamfdofpolaaQm
set_option linter.unusedSimpArgs false
set_option linter.unusedVariables false
namespace Go.Proofs.Ytchlamfdofpolaa
open Go.RowKit

theorem on2R_inf {f0 : Fp2 → Bool} {f1 f2 : Fp2 → Fp2 → Fp2} {f3 : Fp2} {p : Pg2} (h : p.inf = true) : on2R_G f0 f1 f2 f3 p = (fp2Eq p.x zeroFp2 && fp2Eq p.y zeroFp2) := by
  unfold on2R_G
  rw [h]
  cases fp2Eq p.x zeroFp2 <;> rfl
theorem on2R_aff {f0 : Fp2 → Bool} {f1 f2 : Fp2 → Fp2 → Fp2} {f3 : Fp2} {p : Pg2} (h : p.inf = false) : on2R_G f0 f1 f2 f3 p = (f0 p.x && f0 p.y && fp2Eq (f1 p.y p.y) (f2 (f1 (f1 p.x p.x) p.x) f3)) := by
  unfold on2R_G
  rw [h]
  cases f0 p.x <;> cases f0 p.y <;> rfl
theorem may2RF_eq (a : Fp2) : may2R a = mayF2 a := Bool.eq_iff_iff.2 (by rw [may2R_iff, may2_iff])
theorem b2R_G_eq (f : UInt64 → Fp) : b2R_G f = ⟨f 4, f 4⟩ := rfl
theorem b2R_eq : b2R = bFp2 := by
  unfold b2R
  rw [b2R_G_eq]
  rfl
theorem on2R_eq (p : Pg2) : on2R p = onG2 p := by
  unfold on2R onG2
  cases hi : p.inf with
  | true =>
    rw [on2R_inf hi, onG2_inf hi]
    refine Bool.eq_iff_iff.2 ?_
    rw [Bool.and_eq_true, fp2Eq_iff, fp2Eq_iff, pg2Eq_iff]
    exact ⟨fun h => pg2_eq h.1 h.2 hi, fun h => by rw [h]; exact ⟨rfl, rfl⟩⟩
  | false =>
    rw [on2R_aff hi, onG2_aff hi, may2RF_eq, may2RF_eq]
    cases hx : mayF2 p.x with
    | false => simp only [Bool.false_and]
    | true =>
      cases hy : mayF2 p.y with
      | false => simp only [Bool.true_and, Bool.false_and]
      | true =>
        have hx := (may2_iff _).1 hx
        have hy := (may2_iff _).1 hy
        unfold rhsG2
        rw [rhs2_G_eq, mul2R_eq hy hy, mul2R_eq hx hx, mul2R_eq (mul_ok2 hx hx) hx, add2R_eq, b2R_eq]
theorem g2On_0_L {f0 : Bool} {f1 : Fr → Bool} {f2 : Pg2} {f3 : Pg2 → Fr → Pg2} {f4 f5 : Pg2 → Bool} (h0 : f0 = true) (h : ∀ p, f4 p = f5 p) (p : Pg2) (k : Fr) (which : UInt8) (i : Res6_0) : g2On_0_G f0 f1 f2 f3 f4 f5 p k which i = true := by
  obtain rfl : f4 = f5 := funext h
  subst h0
  unfold g2On_0_G
  simp only [beq_self_eq_true, Bool.not_true]
  repeat' (first | rfl | split | (rename_i hh; cases hh))
theorem g2On_0_law (p : Pg2) (k : Fr) (which : UInt8) (i : Res6_0) : g2On_0 p k which i = true := g2On_0_L begun9_true (fun p => (on2R_eq p).symm) p k which i
theorem g2On_1_L {f0 : Bool} {f1 : Fr → Bool} {f2 : Pg2} {f3 : Pg2 → Fr → Pg2} {f4 f5 : Pg2 → Bool} (h0 : f0 = true) (h : ∀ p, f4 p = f5 p) (p : Pg2) (k : Fr) (which : UInt8) (i : Res6_1) : g2On_1_G f0 f1 f2 f3 f4 f5 p k which i = true := by
  obtain rfl : f4 = f5 := funext h
  subst h0
  unfold g2On_1_G
  simp only [beq_self_eq_true, Bool.not_true]
  repeat' (first | rfl | split | (rename_i hh; cases hh))
theorem g2On_1_law (p : Pg2) (k : Fr) (which : UInt8) (i : Res6_1) : g2On_1 p k which i = true := g2On_1_L begun9_true (fun p => (on2R_eq p).symm) p k which i
theorem g2On_2_L {f0 : Bool} {f1 : Fr → Bool} {f2 : Pg2} {f3 : Pg2 → Fr → Pg2} {f4 f5 : Pg2 → Bool} (h0 : f0 = true) (h : ∀ p, f4 p = f5 p) (p : Pg2) (k : Fr) (which : UInt8) (i : Res6_2) : g2On_2_G f0 f1 f2 f3 f4 f5 p k which i = true := by
  obtain rfl : f4 = f5 := funext h
  subst h0
  unfold g2On_2_G
  simp only [beq_self_eq_true, Bool.not_true]
  repeat' (first | rfl | split | (rename_i hh; cases hh))
theorem g2On_2_law (p : Pg2) (k : Fr) (which : UInt8) (i : Res6_2) : g2On_2 p k which i = true := g2On_2_L begun9_true (fun p => (on2R_eq p).symm) p k which i
theorem g2On_3_L {f0 : Bool} {f1 : Fr → Bool} {f2 : Pg2} {f3 : Pg2 → Fr → Pg2} {f4 f5 : Pg2 → Bool} (h0 : f0 = true) (h : ∀ p, f4 p = f5 p) (p : Pg2) (k : Fr) (which : UInt8) (i : Res6_3) : g2On_3_G f0 f1 f2 f3 f4 f5 p k which i = true := by
  obtain rfl : f4 = f5 := funext h
  subst h0
  unfold g2On_3_G
  simp only [beq_self_eq_true, Bool.not_true]
  repeat' (first | rfl | split | (rename_i hh; cases hh))
theorem g2On_3_law (p : Pg2) (k : Fr) (which : UInt8) (i : Res6_3) : g2On_3 p k which i = true := g2On_3_L begun9_true (fun p => (on2R_eq p).symm) p k which i
theorem g2On_4_L {f0 : Bool} {f1 : Fr → Bool} {f2 : Pg2} {f3 : Pg2 → Fr → Pg2} {f4 f5 : Pg2 → Bool} (h0 : f0 = true) (h : ∀ p, f4 p = f5 p) (p : Pg2) (k : Fr) (which : UInt8) (i : Res6_4) : g2On_4_G f0 f1 f2 f3 f4 f5 p k which i = true := by
  obtain rfl : f4 = f5 := funext h
  subst h0
  unfold g2On_4_G
  simp only [beq_self_eq_true, Bool.not_true]
  repeat' (first | rfl | split | (rename_i hh; cases hh))
theorem g2On_4_law (p : Pg2) (k : Fr) (which : UInt8) (i : Res6_4) : g2On_4 p k which i = true := g2On_4_L begun9_true (fun p => (on2R_eq p).symm) p k which i
theorem g2On_5_L {f0 : Bool} {f1 : Fr → Bool} {f2 : Pg2} {f3 : Pg2 → Fr → Pg2} {f4 f5 : Pg2 → Bool} (h0 : f0 = true) (h : ∀ p, f4 p = f5 p) (p : Pg2) (k : Fr) (which : UInt8) (i : Res6_5) : g2On_5_G f0 f1 f2 f3 f4 f5 p k which i = true := by
  obtain rfl : f4 = f5 := funext h
  subst h0
  unfold g2On_5_G
  simp only [beq_self_eq_true, Bool.not_true]
  repeat' (first | rfl | split | (rename_i hh; cases hh))
theorem g2On_5_law (p : Pg2) (k : Fr) (which : UInt8) (i : Res6_5) : g2On_5 p k which i = true := g2On_5_L begun9_true (fun p => (on2R_eq p).symm) p k which i
theorem g2On_gives (p : Pg2) (k : Fr) (which : UInt8) (i : UInt64) (w : World) : Gives Try.prog 10 ((KdL.cons (kRow Pg2) (KdL.cons (kRow Fr) (KdL.cons kU8 (KdL.cons kU64 KdL.nil)))).vals (p, k, which, i, ())).toArray w kBool.rs.res true := by
  have h : i.toNat % 6 = 0 ∨ i.toNat % 6 = 1 ∨ i.toNat % 6 = 2 ∨ i.toNat % 6 = 3 ∨ i.toNat % 6 = 4 ∨ i.toNat % 6 = 5 := by omega
  rcases h with h | h | h | h | h | h
  · have key := g2On_0_gives p k which ⟨i, h⟩ w
    rw [g2On_0_law] at key
    exact key
  · have key := g2On_1_gives p k which ⟨i, h⟩ w
    rw [g2On_1_law] at key
    exact key
  · have key := g2On_2_gives p k which ⟨i, h⟩ w
    rw [g2On_2_law] at key
    exact key
  · have key := g2On_3_gives p k which ⟨i, h⟩ w
    rw [g2On_3_law] at key
    exact key
  · have key := g2On_4_gives p k which ⟨i, h⟩ w
    rw [g2On_4_law] at key
    exact key
  · have key := g2On_5_gives p k which ⟨i, h⟩ w
    rw [g2On_5_law] at key
    exact key

end Go.Proofs.Ytchlamfdofpolaa
