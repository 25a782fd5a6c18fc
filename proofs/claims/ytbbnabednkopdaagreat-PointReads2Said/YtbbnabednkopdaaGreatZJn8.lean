/- Texts of the proof, joined. -/
import Derived.Test.YtbbnabednkopdaaGreatZJn7
set_option linter.unusedSimpArgs false
set_option linter.unusedVariables false
namespace Go.Proofs.YtbbnabednkopdaaGreat
open Go.RowKit
theorem begun10_L {g1 : Pg1} {p1 : Pg1 → List UInt8} {t1 : List UInt8 → Pg1 × Int} {g2 : Pg2} {p2 : Pg2 → List UInt8} {t2 : List UInt8 → Pg2 × Int} (h1 : t1 (p1 g1) = (g1, 0)) (h2 : t2 (p2 g2) = (g2, 0)) : (begun10_T g1 p1 t1 g2 p2 t2).outD false = true := by
  unfold begun10_T
  simp only [outD_br, outD_vc, outD_leaf, List.drop_zero, List.take_length, h1, h2, (pg1Eq_iff g1 g1).2 rfl, beq_self_eq_true, Bool.and_true, cond_true]
theorem begun10_true : begun10 = true := begun10_L (read1 gen1_good gen1_order) (read2 gen2_good gen2_order)
theorem reads2_vc (f0 : Bool) (f1 f2 : List UInt8 → Pg2 × Int) (b : List UInt8) : (ptReads2_T f0 f1 f2 b).full = true ∧ (ptReads2_T f0 f1 f2 b).okAll := by
  refine ⟨rfl, ?_⟩
  unfold ptReads2_T
  simp only [Tree.okAll, Pr.holds, whole8, implies_true, and_true, true_and, decide_eq_false_iff_not, map_b, littleB]
  intro _
  refine ⟨by omega, fun h => ?_⟩
  omega
theorem reads2_L {f0 : Bool} {f1 f2 : List UInt8 → Pg2 × Int} {b : List UInt8} (h0 : f0 = true) (h : f1 b = f2 b) : (ptReads2_T f0 f1 f2 b).outD false = true := by
  unfold ptReads2_T
  subst h0
  simp only [outD_br, outD_vc, outD_leaf, whole8, h, (pg2Eq_iff _ _).2 rfl, beq_self_eq_true, cond_true, Bool.not_true, cond_false, Bool.and_true]
  cases decide ((b.length : Int) > 200) <;> rfl
theorem pointReads2_gives {w : World} {v : Value} {b : List UInt8} (h : SlIs eU8 w v b) : Gives Tryz.prog 9 #[v] w kBool.rs.res true := by
  have := ptReads2_gives' (fun b _ => reads2_vc _ _ _ b) h
  rw [show ptReads2 b = true from reads2_L begun10_true (rtake2F_eq b)] at this
  exact this
end Go.Proofs.YtbbnabednkopdaaGreat
