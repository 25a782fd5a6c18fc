/- The statement G1On: its plain law. -/
import Derived.Test.YtchlamfdofpolaaWe
import Derived.Test.YtchlamfdofpolaaQm
set_option linter.unusedSimpArgs false
set_option linter.unusedVariables false
namespace Go.Proofs.Ytchlamfdofpolaa
open Go.RowKit

theorem on1R_inf {f0 : Fp → Bool} {f1 f2 : Fp → Fp → Fp} {f3 : UInt64 → Fp} {p : Pg1} (h : p.inf = true) : on1R_G f0 f1 f2 f3 p = (fpEq p.x zeroFp && fpEq p.y zeroFp) := by
  unfold on1R_G
  rw [h]
  cases fpEq p.x zeroFp <;> rfl
theorem on1R_aff {f0 : Fp → Bool} {f1 f2 : Fp → Fp → Fp} {f3 : UInt64 → Fp} {p : Pg1} (h : p.inf = false) : on1R_G f0 f1 f2 f3 p = (f0 p.x && f0 p.y && fpEq (f1 p.y p.y) (f2 (f1 (f1 p.x p.x) p.x) (f3 4))) := by
  unfold on1R_G
  rw [h]
  cases f0 p.x <;> cases f0 p.y <;> rfl
theorem may1R_eq (a : Fp) : mayPF a = mayF a := Bool.eq_iff_iff.2 (by rw [mayPF_ok, mayF_ok])
theorem on1R_eq (p : Pg1) : on1R p = onG1 p := by
  unfold on1R onG1
  cases hi : p.inf with
  | true =>
    rw [on1R_inf hi, onG1_inf hi]
    refine Bool.eq_iff_iff.2 ?_
    rw [Bool.and_eq_true, fpEq_iff, fpEq_iff, pg1Eq_iff]
    exact ⟨fun h => pg1_eq h.1 h.2 hi, fun h => by rw [h]; exact ⟨rfl, rfl⟩⟩
  | false =>
    rw [on1R_aff hi, onG1_aff hi, may1R_eq, may1R_eq]
    cases hx : mayF p.x with
    | false => simp only [Bool.false_and]
    | true =>
      cases hy : mayF p.y with
      | false => simp only [Bool.true_and, Bool.false_and]
      | true =>
        have hx := (mayF_ok _).1 hx
        have hy := (mayF_ok _).1 hy
        have hb : bFp1 = ofF 4 := rfl
        unfold rhsG1
        rw [rhs1_G_eq, mulPF_eq hy hy, mulPF_eq hx hx, mulPF_eq (mul_ok' hx) hx, addPF_eq, hb]
theorem g1On_0_L {f0 : Bool} {f1 : Fr → Bool} {f2 : Pg1} {f3 : Pg1 → Fr → Pg1} {f4 f5 : Pg1 → Bool} (h0 : f0 = true) (h : ∀ p, f4 p = f5 p) (p : Pg1) (k : Fr) (which : UInt8) (i : Res6_0) : g1On_0_G f0 f1 f2 f3 f4 f5 p k which i = true := by
  obtain rfl : f4 = f5 := funext h
  subst h0
  unfold g1On_0_G
  simp only [beq_self_eq_true, Bool.not_true]
  repeat' (first | rfl | split | (rename_i hh; cases hh))
theorem g1On_0_law (p : Pg1) (k : Fr) (which : UInt8) (i : Res6_0) : g1On_0 p k which i = true := g1On_0_L begun8_true (fun p => (on1R_eq p).symm) p k which i
theorem g1On_1_L {f0 : Bool} {f1 : Fr → Bool} {f2 : Pg1} {f3 : Pg1 → Fr → Pg1} {f4 f5 : Pg1 → Bool} (h0 : f0 = true) (h : ∀ p, f4 p = f5 p) (p : Pg1) (k : Fr) (which : UInt8) (i : Res6_1) : g1On_1_G f0 f1 f2 f3 f4 f5 p k which i = true := by
  obtain rfl : f4 = f5 := funext h
  subst h0
  unfold g1On_1_G
  simp only [beq_self_eq_true, Bool.not_true]
  repeat' (first | rfl | split | (rename_i hh; cases hh))
theorem g1On_1_law (p : Pg1) (k : Fr) (which : UInt8) (i : Res6_1) : g1On_1 p k which i = true := g1On_1_L begun8_true (fun p => (on1R_eq p).symm) p k which i
theorem g1On_2_L {f0 : Bool} {f1 : Fr → Bool} {f2 : Pg1} {f3 : Pg1 → Fr → Pg1} {f4 f5 : Pg1 → Bool} (h0 : f0 = true) (h : ∀ p, f4 p = f5 p) (p : Pg1) (k : Fr) (which : UInt8) (i : Res6_2) : g1On_2_G f0 f1 f2 f3 f4 f5 p k which i = true := by
  obtain rfl : f4 = f5 := funext h
  subst h0
  unfold g1On_2_G
  simp only [beq_self_eq_true, Bool.not_true]
  repeat' (first | rfl | split | (rename_i hh; cases hh))
theorem g1On_2_law (p : Pg1) (k : Fr) (which : UInt8) (i : Res6_2) : g1On_2 p k which i = true := g1On_2_L begun8_true (fun p => (on1R_eq p).symm) p k which i
theorem g1On_3_L {f0 : Bool} {f1 : Fr → Bool} {f2 : Pg1} {f3 : Pg1 → Fr → Pg1} {f4 f5 : Pg1 → Bool} (h0 : f0 = true) (h : ∀ p, f4 p = f5 p) (p : Pg1) (k : Fr) (which : UInt8) (i : Res6_3) : g1On_3_G f0 f1 f2 f3 f4 f5 p k which i = true := by
  obtain rfl : f4 = f5 := funext h
  subst h0
  unfold g1On_3_G
  simp only [beq_self_eq_true, Bool.not_true]
  repeat' (first | rfl | split | (rename_i hh; cases hh))
theorem g1On_3_law (p : Pg1) (k : Fr) (which : UInt8) (i : Res6_3) : g1On_3 p k which i = true := g1On_3_L begun8_true (fun p => (on1R_eq p).symm) p k which i
theorem g1On_4_L {f0 : Bool} {f1 : Fr → Bool} {f2 : Pg1} {f3 : Pg1 → Fr → Pg1} {f4 f5 : Pg1 → Bool} (h0 : f0 = true) (h : ∀ p, f4 p = f5 p) (p : Pg1) (k : Fr) (which : UInt8) (i : Res6_4) : g1On_4_G f0 f1 f2 f3 f4 f5 p k which i = true := by
  obtain rfl : f4 = f5 := funext h
  subst h0
  unfold g1On_4_G
  simp only [beq_self_eq_true, Bool.not_true]
  repeat' (first | rfl | split | (rename_i hh; cases hh))
theorem g1On_4_law (p : Pg1) (k : Fr) (which : UInt8) (i : Res6_4) : g1On_4 p k which i = true := g1On_4_L begun8_true (fun p => (on1R_eq p).symm) p k which i
theorem g1On_5_L {f0 : Bool} {f1 : Fr → Bool} {f2 : Pg1} {f3 : Pg1 → Fr → Pg1} {f4 f5 : Pg1 → Bool} (h0 : f0 = true) (h : ∀ p, f4 p = f5 p) (p : Pg1) (k : Fr) (which : UInt8) (i : Res6_5) : g1On_5_G f0 f1 f2 f3 f4 f5 p k which i = true := by
  obtain rfl : f4 = f5 := funext h
  subst h0
  unfold g1On_5_G
  simp only [beq_self_eq_true, Bool.not_true]
  repeat' (first | rfl | split | (rename_i hh; cases hh))
theorem g1On_5_law (p : Pg1) (k : Fr) (which : UInt8) (i : Res6_5) : g1On_5 p k which i = true := g1On_5_L begun8_true (fun p => (on1R_eq p).symm) p k which i
theorem g1On_gives (p : Pg1) (k : Fr) (which : UInt8) (i : UInt64) (w : World) : Gives Try.prog 4 ((KdL.cons (kRow Pg1) (KdL.cons (kRow Fr) (KdL.cons kU8 (KdL.cons kU64 KdL.nil)))).vals (p, k, which, i, ())).toArray w kBool.rs.res true := by
  have h : i.toNat % 6 = 0 ∨ i.toNat % 6 = 1 ∨ i.toNat % 6 = 2 ∨ i.toNat % 6 = 3 ∨ i.toNat % 6 = 4 ∨ i.toNat % 6 = 5 := by omega
  rcases h with h | h | h | h | h | h
  · have key := g1On_0_gives p k which ⟨i, h⟩ w
    rw [g1On_0_law] at key
    exact key
  · have key := g1On_1_gives p k which ⟨i, h⟩ w
    rw [g1On_1_law] at key
    exact key
  · have key := g1On_2_gives p k which ⟨i, h⟩ w
    rw [g1On_2_law] at key
    exact key
  · have key := g1On_3_gives p k which ⟨i, h⟩ w
    rw [g1On_3_law] at key
    exact key
  · have key := g1On_4_gives p k which ⟨i, h⟩ w
    rw [g1On_4_law] at key
    exact key
  · have key := g1On_5_gives p k which ⟨i, h⟩ w
    rw [g1On_5_law] at key
    exact key

end Go.Proofs.Ytchlamfdofpolaa
