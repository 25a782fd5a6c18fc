/- Texts of the proof, joined. -/
import Derived.Test.YtbbnabednkopdaaGreatZJp6
set_option linter.unusedSimpArgs false
set_option linter.unusedVariables false
namespace Go.Proofs.YtbbnabednkopdaaGreat
open Go.RowKit
abbrev aN : Arg Int := kInt.arg.such sizeB
def take1F_T (f0 : List UInt8 → Int → List UInt8 × Bool × Bool × Int) (f1 : List UInt8 → Fp × Int) (f2 : Fp → Fp × Bool) (f3 : Fp → Fp → Fp) (f4 : Fp → Fp → Fp) (f5 : UInt64 → Fp) (f6 : Pg1 → Pg1) (f7 : Pg1 → Bool) (b : List UInt8) : Tree (Option ((Pg1 × Int) × Pr)) :=
  (.vc (((0 + b.length ≤ b.length ∧ b.length < 1125899906842624 ∧ 0 = 0 ∧ 1 = 1) ∧ littleB (List.take b.length (List.drop 0 b))) ∧ sizeB 48)
    (.br ((f0 (List.take b.length (List.drop 0 b)) 48).snd.snd.snd != 0)
      (.leaf (some ((({ x := { l0 := UInt64.ofNat 0, l1 := UInt64.ofNat 0, l2 := UInt64.ofNat 0, l3 := UInt64.ofNat 0, l4 := UInt64.ofNat 0, l5 := UInt64.ofNat 0 }, y := { l0 := UInt64.ofNat 0, l1 := UInt64.ofNat 0, l2 := UInt64.ofNat 0, l3 := UInt64.ofNat 0, l4 := UInt64.ofNat 0, l5 := UInt64.ofNat 0 }, inf := false }, (f0 (List.take b.length (List.drop 0 b)) 48).snd.snd.snd), .t))))
      (.br ((f0 (List.take b.length (List.drop 0 b)) 48).snd.fst)
        (.leaf (some ((({ x := { l0 := UInt64.ofNat 0, l1 := UInt64.ofNat 0, l2 := UInt64.ofNat 0, l3 := UInt64.ofNat 0, l4 := UInt64.ofNat 0, l5 := UInt64.ofNat 0 }, y := { l0 := UInt64.ofNat 0, l1 := UInt64.ofNat 0, l2 := UInt64.ofNat 0, l3 := UInt64.ofNat 0, l4 := UInt64.ofNat 0, l5 := UInt64.ofNat 0 }, inf := true }, 0), .t))))
        (.vc ((0 + (f0 (List.take b.length (List.drop 0 b)) 48).fst.length ≤ (f0 (List.take b.length (List.drop 0 b)) 48).fst.length ∧ (f0 (List.take b.length (List.drop 0 b)) 48).fst.length < 1125899906842624 ∧ 0 = 0 ∧ 1 = 1) ∧ littleB (List.take (f0 (List.take b.length (List.drop 0 b)) 48).fst.length (List.drop 0 (f0 (List.take b.length (List.drop 0 b)) 48).fst)))
          (.br ((f1 (List.take (f0 (List.take b.length (List.drop 0 b)) 48).fst.length (List.drop 0 (f0 (List.take b.length (List.drop 0 b)) 48).fst))).snd != 0)
            (.leaf (some ((({ x := { l0 := UInt64.ofNat 0, l1 := UInt64.ofNat 0, l2 := UInt64.ofNat 0, l3 := UInt64.ofNat 0, l4 := UInt64.ofNat 0, l5 := UInt64.ofNat 0 }, y := { l0 := UInt64.ofNat 0, l1 := UInt64.ofNat 0, l2 := UInt64.ofNat 0, l3 := UInt64.ofNat 0, l4 := UInt64.ofNat 0, l5 := UInt64.ofNat 0 }, inf := false }, (f1 (List.take (f0 (List.take b.length (List.drop 0 b)) 48).fst.length (List.drop 0 (f0 (List.take b.length (List.drop 0 b)) 48).fst))).snd), .t))))
            (.br ((f0 (List.take b.length (List.drop 0 b)) 48).snd.snd.fst)
              (.br (!((f2 (f3 (f4 (f4 (f1 (List.take (f0 (List.take b.length (List.drop 0 b)) 48).fst.length (List.drop 0 (f0 (List.take b.length (List.drop 0 b)) 48).fst))).fst (f1 (List.take (f0 (List.take b.length (List.drop 0 b)) 48).fst.length (List.drop 0 (f0 (List.take b.length (List.drop 0 b)) 48).fst))).fst) (f1 (List.take (f0 (List.take b.length (List.drop 0 b)) 48).fst.length (List.drop 0 (f0 (List.take b.length (List.drop 0 b)) 48).fst))).fst) (f5 (UInt64.ofNat 4)))).snd))
                (.leaf (some ((({ x := { l0 := UInt64.ofNat 0, l1 := UInt64.ofNat 0, l2 := UInt64.ofNat 0, l3 := UInt64.ofNat 0, l4 := UInt64.ofNat 0, l5 := UInt64.ofNat 0 }, y := { l0 := UInt64.ofNat 0, l1 := UInt64.ofNat 0, l2 := UInt64.ofNat 0, l3 := UInt64.ofNat 0, l4 := UInt64.ofNat 0, l5 := UInt64.ofNat 0 }, inf := false }, 5), .t))))
                (.br ((f0 (List.take b.length (List.drop 0 b)) 48).snd.snd.fst)
                  (.br (fpEq ((f2 (f3 (f4 (f4 (f1 (List.take (f0 (List.take b.length (List.drop 0 b)) 48).fst.length (List.drop 0 (f0 (List.take b.length (List.drop 0 b)) 48).fst))).fst (f1 (List.take (f0 (List.take b.length (List.drop 0 b)) 48).fst.length (List.drop 0 (f0 (List.take b.length (List.drop 0 b)) 48).fst))).fst) (f1 (List.take (f0 (List.take b.length (List.drop 0 b)) 48).fst.length (List.drop 0 (f0 (List.take b.length (List.drop 0 b)) 48).fst))).fst) (f5 (UInt64.ofNat 4)))).fst) ({ l0 := UInt64.ofNat 0, l1 := UInt64.ofNat 0, l2 := UInt64.ofNat 0, l3 := UInt64.ofNat 0, l4 := UInt64.ofNat 0, l5 := UInt64.ofNat 0 }))
                    (.leaf (some ((({ x := { l0 := UInt64.ofNat 0, l1 := UInt64.ofNat 0, l2 := UInt64.ofNat 0, l3 := UInt64.ofNat 0, l4 := UInt64.ofNat 0, l5 := UInt64.ofNat 0 }, y := { l0 := UInt64.ofNat 0, l1 := UInt64.ofNat 0, l2 := UInt64.ofNat 0, l3 := UInt64.ofNat 0, l4 := UInt64.ofNat 0, l5 := UInt64.ofNat 0 }, inf := false }, 3), .t))))
                    (.br (!(f7 (f6 { x := (f1 (List.take (f0 (List.take b.length (List.drop 0 b)) 48).fst.length (List.drop 0 (f0 (List.take b.length (List.drop 0 b)) 48).fst))).fst, y := (f2 (f3 (f4 (f4 (f1 (List.take (f0 (List.take b.length (List.drop 0 b)) 48).fst.length (List.drop 0 (f0 (List.take b.length (List.drop 0 b)) 48).fst))).fst (f1 (List.take (f0 (List.take b.length (List.drop 0 b)) 48).fst.length (List.drop 0 (f0 (List.take b.length (List.drop 0 b)) 48).fst))).fst) (f1 (List.take (f0 (List.take b.length (List.drop 0 b)) 48).fst.length (List.drop 0 (f0 (List.take b.length (List.drop 0 b)) 48).fst))).fst) (f5 (UInt64.ofNat 4)))).fst, inf := false })))
                      (.leaf (some ((({ x := { l0 := UInt64.ofNat 0, l1 := UInt64.ofNat 0, l2 := UInt64.ofNat 0, l3 := UInt64.ofNat 0, l4 := UInt64.ofNat 0, l5 := UInt64.ofNat 0 }, y := { l0 := UInt64.ofNat 0, l1 := UInt64.ofNat 0, l2 := UInt64.ofNat 0, l3 := UInt64.ofNat 0, l4 := UInt64.ofNat 0, l5 := UInt64.ofNat 0 }, inf := false }, 6), .t))))
                      (.leaf (some (((f6 { x := (f1 (List.take (f0 (List.take b.length (List.drop 0 b)) 48).fst.length (List.drop 0 (f0 (List.take b.length (List.drop 0 b)) 48).fst))).fst, y := (f2 (f3 (f4 (f4 (f1 (List.take (f0 (List.take b.length (List.drop 0 b)) 48).fst.length (List.drop 0 (f0 (List.take b.length (List.drop 0 b)) 48).fst))).fst (f1 (List.take (f0 (List.take b.length (List.drop 0 b)) 48).fst.length (List.drop 0 (f0 (List.take b.length (List.drop 0 b)) 48).fst))).fst) (f1 (List.take (f0 (List.take b.length (List.drop 0 b)) 48).fst.length (List.drop 0 (f0 (List.take b.length (List.drop 0 b)) 48).fst))).fst) (f5 (UInt64.ofNat 4)))).fst, inf := false }, 0), .t))))))
                  (.br (!(f7 (f6 { x := (f1 (List.take (f0 (List.take b.length (List.drop 0 b)) 48).fst.length (List.drop 0 (f0 (List.take b.length (List.drop 0 b)) 48).fst))).fst, y := (f2 (f3 (f4 (f4 (f1 (List.take (f0 (List.take b.length (List.drop 0 b)) 48).fst.length (List.drop 0 (f0 (List.take b.length (List.drop 0 b)) 48).fst))).fst (f1 (List.take (f0 (List.take b.length (List.drop 0 b)) 48).fst.length (List.drop 0 (f0 (List.take b.length (List.drop 0 b)) 48).fst))).fst) (f1 (List.take (f0 (List.take b.length (List.drop 0 b)) 48).fst.length (List.drop 0 (f0 (List.take b.length (List.drop 0 b)) 48).fst))).fst) (f5 (UInt64.ofNat 4)))).fst, inf := false })))
                    (.leaf (some ((({ x := { l0 := UInt64.ofNat 0, l1 := UInt64.ofNat 0, l2 := UInt64.ofNat 0, l3 := UInt64.ofNat 0, l4 := UInt64.ofNat 0, l5 := UInt64.ofNat 0 }, y := { l0 := UInt64.ofNat 0, l1 := UInt64.ofNat 0, l2 := UInt64.ofNat 0, l3 := UInt64.ofNat 0, l4 := UInt64.ofNat 0, l5 := UInt64.ofNat 0 }, inf := false }, 6), .t))))
                    (.leaf (some (((f6 { x := (f1 (List.take (f0 (List.take b.length (List.drop 0 b)) 48).fst.length (List.drop 0 (f0 (List.take b.length (List.drop 0 b)) 48).fst))).fst, y := (f2 (f3 (f4 (f4 (f1 (List.take (f0 (List.take b.length (List.drop 0 b)) 48).fst.length (List.drop 0 (f0 (List.take b.length (List.drop 0 b)) 48).fst))).fst (f1 (List.take (f0 (List.take b.length (List.drop 0 b)) 48).fst.length (List.drop 0 (f0 (List.take b.length (List.drop 0 b)) 48).fst))).fst) (f1 (List.take (f0 (List.take b.length (List.drop 0 b)) 48).fst.length (List.drop 0 (f0 (List.take b.length (List.drop 0 b)) 48).fst))).fst) (f5 (UInt64.ofNat 4)))).fst, inf := false }, 0), .t)))))))
              (.br (!((f2 (f3 (f4 (f4 (f1 (List.take (f0 (List.take b.length (List.drop 0 b)) 48).fst.length (List.drop 0 (f0 (List.take b.length (List.drop 0 b)) 48).fst))).fst (f1 (List.take (f0 (List.take b.length (List.drop 0 b)) 48).fst.length (List.drop 0 (f0 (List.take b.length (List.drop 0 b)) 48).fst))).fst) (f1 (List.take (f0 (List.take b.length (List.drop 0 b)) 48).fst.length (List.drop 0 (f0 (List.take b.length (List.drop 0 b)) 48).fst))).fst) (f5 (UInt64.ofNat 4)))).snd))
                (.leaf (some ((({ x := { l0 := UInt64.ofNat 0, l1 := UInt64.ofNat 0, l2 := UInt64.ofNat 0, l3 := UInt64.ofNat 0, l4 := UInt64.ofNat 0, l5 := UInt64.ofNat 0 }, y := { l0 := UInt64.ofNat 0, l1 := UInt64.ofNat 0, l2 := UInt64.ofNat 0, l3 := UInt64.ofNat 0, l4 := UInt64.ofNat 0, l5 := UInt64.ofNat 0 }, inf := false }, 5), .t))))
                (.br ((f0 (List.take b.length (List.drop 0 b)) 48).snd.snd.fst)
                  (.br (fpEq ((f2 (f3 (f4 (f4 (f1 (List.take (f0 (List.take b.length (List.drop 0 b)) 48).fst.length (List.drop 0 (f0 (List.take b.length (List.drop 0 b)) 48).fst))).fst (f1 (List.take (f0 (List.take b.length (List.drop 0 b)) 48).fst.length (List.drop 0 (f0 (List.take b.length (List.drop 0 b)) 48).fst))).fst) (f1 (List.take (f0 (List.take b.length (List.drop 0 b)) 48).fst.length (List.drop 0 (f0 (List.take b.length (List.drop 0 b)) 48).fst))).fst) (f5 (UInt64.ofNat 4)))).fst) ({ l0 := UInt64.ofNat 0, l1 := UInt64.ofNat 0, l2 := UInt64.ofNat 0, l3 := UInt64.ofNat 0, l4 := UInt64.ofNat 0, l5 := UInt64.ofNat 0 }))
                    (.leaf (some ((({ x := { l0 := UInt64.ofNat 0, l1 := UInt64.ofNat 0, l2 := UInt64.ofNat 0, l3 := UInt64.ofNat 0, l4 := UInt64.ofNat 0, l5 := UInt64.ofNat 0 }, y := { l0 := UInt64.ofNat 0, l1 := UInt64.ofNat 0, l2 := UInt64.ofNat 0, l3 := UInt64.ofNat 0, l4 := UInt64.ofNat 0, l5 := UInt64.ofNat 0 }, inf := false }, 3), .t))))
                    (.br (!(f7 { x := (f1 (List.take (f0 (List.take b.length (List.drop 0 b)) 48).fst.length (List.drop 0 (f0 (List.take b.length (List.drop 0 b)) 48).fst))).fst, y := (f2 (f3 (f4 (f4 (f1 (List.take (f0 (List.take b.length (List.drop 0 b)) 48).fst.length (List.drop 0 (f0 (List.take b.length (List.drop 0 b)) 48).fst))).fst (f1 (List.take (f0 (List.take b.length (List.drop 0 b)) 48).fst.length (List.drop 0 (f0 (List.take b.length (List.drop 0 b)) 48).fst))).fst) (f1 (List.take (f0 (List.take b.length (List.drop 0 b)) 48).fst.length (List.drop 0 (f0 (List.take b.length (List.drop 0 b)) 48).fst))).fst) (f5 (UInt64.ofNat 4)))).fst, inf := false }))
                      (.leaf (some ((({ x := { l0 := UInt64.ofNat 0, l1 := UInt64.ofNat 0, l2 := UInt64.ofNat 0, l3 := UInt64.ofNat 0, l4 := UInt64.ofNat 0, l5 := UInt64.ofNat 0 }, y := { l0 := UInt64.ofNat 0, l1 := UInt64.ofNat 0, l2 := UInt64.ofNat 0, l3 := UInt64.ofNat 0, l4 := UInt64.ofNat 0, l5 := UInt64.ofNat 0 }, inf := false }, 6), .t))))
                      (.leaf (some ((({ x := (f1 (List.take (f0 (List.take b.length (List.drop 0 b)) 48).fst.length (List.drop 0 (f0 (List.take b.length (List.drop 0 b)) 48).fst))).fst, y := (f2 (f3 (f4 (f4 (f1 (List.take (f0 (List.take b.length (List.drop 0 b)) 48).fst.length (List.drop 0 (f0 (List.take b.length (List.drop 0 b)) 48).fst))).fst (f1 (List.take (f0 (List.take b.length (List.drop 0 b)) 48).fst.length (List.drop 0 (f0 (List.take b.length (List.drop 0 b)) 48).fst))).fst) (f1 (List.take (f0 (List.take b.length (List.drop 0 b)) 48).fst.length (List.drop 0 (f0 (List.take b.length (List.drop 0 b)) 48).fst))).fst) (f5 (UInt64.ofNat 4)))).fst, inf := false }, 0), .t))))))
                  (.br (!(f7 { x := (f1 (List.take (f0 (List.take b.length (List.drop 0 b)) 48).fst.length (List.drop 0 (f0 (List.take b.length (List.drop 0 b)) 48).fst))).fst, y := (f2 (f3 (f4 (f4 (f1 (List.take (f0 (List.take b.length (List.drop 0 b)) 48).fst.length (List.drop 0 (f0 (List.take b.length (List.drop 0 b)) 48).fst))).fst (f1 (List.take (f0 (List.take b.length (List.drop 0 b)) 48).fst.length (List.drop 0 (f0 (List.take b.length (List.drop 0 b)) 48).fst))).fst) (f1 (List.take (f0 (List.take b.length (List.drop 0 b)) 48).fst.length (List.drop 0 (f0 (List.take b.length (List.drop 0 b)) 48).fst))).fst) (f5 (UInt64.ofNat 4)))).fst, inf := false }))
                    (.leaf (some ((({ x := { l0 := UInt64.ofNat 0, l1 := UInt64.ofNat 0, l2 := UInt64.ofNat 0, l3 := UInt64.ofNat 0, l4 := UInt64.ofNat 0, l5 := UInt64.ofNat 0 }, y := { l0 := UInt64.ofNat 0, l1 := UInt64.ofNat 0, l2 := UInt64.ofNat 0, l3 := UInt64.ofNat 0, l4 := UInt64.ofNat 0, l5 := UInt64.ofNat 0 }, inf := false }, 6), .t))))
                    (.leaf (some ((({ x := (f1 (List.take (f0 (List.take b.length (List.drop 0 b)) 48).fst.length (List.drop 0 (f0 (List.take b.length (List.drop 0 b)) 48).fst))).fst, y := (f2 (f3 (f4 (f4 (f1 (List.take (f0 (List.take b.length (List.drop 0 b)) 48).fst.length (List.drop 0 (f0 (List.take b.length (List.drop 0 b)) 48).fst))).fst (f1 (List.take (f0 (List.take b.length (List.drop 0 b)) 48).fst.length (List.drop 0 (f0 (List.take b.length (List.drop 0 b)) 48).fst))).fst) (f1 (List.take (f0 (List.take b.length (List.drop 0 b)) 48).fst.length (List.drop 0 (f0 (List.take b.length (List.drop 0 b)) 48).fst))).fst) (f5 (UInt64.ofNat 4)))).fst, inf := false }, 0), .t)))))))))))))
theorem take1F_run (f0 : List UInt8 → Int → List UInt8 × Bool × Bool × Int) (f1 : List UInt8 → Fp × Int) (f2 : Fp → Fp × Bool) (f3 : Fp → Fp → Fp) (f4 : Fp → Fp → Fp) (f5 : UInt64 → Fp) (f6 : Pg1 → Pg1) (f7 : Pg1 → Bool) (b : List UInt8) : endT (Ens [(90, K2 aBs aN oB4.res f0), (91, Kftake f1), (92, Ksqrt f2), (93, Kff f3), (94, Kff f4), (95, Kof f5), (96, K1 (kRow Pg1).arg (kRow Pg1).rs.res f6), (97, K1 (kRow Pg1).arg kBool.rs.res f7)] [90]) ((kRow Pg1).rs2 kInt).out 300 Tryz.f44 (flat (codeOf Tryz.f44)) (startSt Tryz.f44 [iBs.av 0 b] [inHE eU8 b]) = take1F_T f0 f1 f2 f3 f4 f5 f6 f7 b := by kernel_rfl
def take1F (b : List UInt8) : Pg1 × Int := (take1F_T bareF ftakeF sqrtF addF mulF ofF negG1 inG1 b).outD (pg10, 0)
theorem take1F_ok' (h : ∀ (b : List UInt8), iBs.fact b → (take1F_T bareF ftakeF sqrtF addF mulF ofF negG1 inG1 b).full = true ∧ (take1F_T bareF ftakeF sqrtF addF mulF ofF negG1 inG1 b).okAll) : CallOk Tryz.prog 44 (K1 aBs ((kRow Pg1).rs2 kInt).out.res take1F) :=
  Go.Proofs.YtbbnabednkopdaaGreat.G1 (E := Ens [(90, K2 aBs aN oB4.res bareF), (91, Kftake ftakeF), (92, Ksqrt sqrtF), (93, Kff addF), (94, Kff mulF), (95, Kof ofF), (96, K1 (kRow Pg1).arg (kRow Pg1).rs.res negG1), (97, K1 (kRow Pg1).arg kBool.rs.res inG1)] [90]) Tryz.func44 (c := codeOf Tryz.f44) (by kernel_rfl) (bodied Tryz.func44 (by kernel_rfl) (by kernel_rfl)) iBs ((kRow Pg1).rs2 kInt).out take1F fun b hb => DoesL.outs (Ens_ok (.cons bare_ok (.cons ftake_ok (.cons sqrt_ok (.cons add_ok (.cons mul_ok (.cons of_ok (.cons negG1_ok (.cons inG1_ok .nil))))))))) 300 (pg10, 0) (take1F_run bareF ftakeF sqrtF addF mulF ofF negG1 inG1 b) (h b hb).1 (h b hb).2
def take2F_T (f0 : List UInt8 → Int → List UInt8 × Bool × Bool × Int) (f1 : List UInt8 → Fp × Int) (f2 : Fp2 → Fp2 × Bool) (f3 : Fp2 → Fp2 → Fp2) (f4 : Fp2 → Fp2 → Fp2) (f5 : Pg2 → Pg2) (f6 : Pg2 → Bool) (b : List UInt8) : Tree (Option ((Pg2 × Int) × Pr)) :=
  (.vc (((0 + b.length ≤ b.length ∧ b.length < 1125899906842624 ∧ 0 = 0 ∧ 1 = 1) ∧ littleB (List.take b.length (List.drop 0 b))) ∧ sizeB 96)
    (.br ((f0 (List.take b.length (List.drop 0 b)) 96).snd.snd.snd != 0)
      (.leaf (some ((({ x := { c0 := { l0 := UInt64.ofNat 0, l1 := UInt64.ofNat 0, l2 := UInt64.ofNat 0, l3 := UInt64.ofNat 0, l4 := UInt64.ofNat 0, l5 := UInt64.ofNat 0 }, c1 := { l0 := UInt64.ofNat 0, l1 := UInt64.ofNat 0, l2 := UInt64.ofNat 0, l3 := UInt64.ofNat 0, l4 := UInt64.ofNat 0, l5 := UInt64.ofNat 0 } }, y := { c0 := { l0 := UInt64.ofNat 0, l1 := UInt64.ofNat 0, l2 := UInt64.ofNat 0, l3 := UInt64.ofNat 0, l4 := UInt64.ofNat 0, l5 := UInt64.ofNat 0 }, c1 := { l0 := UInt64.ofNat 0, l1 := UInt64.ofNat 0, l2 := UInt64.ofNat 0, l3 := UInt64.ofNat 0, l4 := UInt64.ofNat 0, l5 := UInt64.ofNat 0 } }, inf := false }, (f0 (List.take b.length (List.drop 0 b)) 96).snd.snd.snd), .t))))
      (.br ((f0 (List.take b.length (List.drop 0 b)) 96).snd.fst)
        (.leaf (some ((({ x := { c0 := { l0 := UInt64.ofNat 0, l1 := UInt64.ofNat 0, l2 := UInt64.ofNat 0, l3 := UInt64.ofNat 0, l4 := UInt64.ofNat 0, l5 := UInt64.ofNat 0 }, c1 := { l0 := UInt64.ofNat 0, l1 := UInt64.ofNat 0, l2 := UInt64.ofNat 0, l3 := UInt64.ofNat 0, l4 := UInt64.ofNat 0, l5 := UInt64.ofNat 0 } }, y := { c0 := { l0 := UInt64.ofNat 0, l1 := UInt64.ofNat 0, l2 := UInt64.ofNat 0, l3 := UInt64.ofNat 0, l4 := UInt64.ofNat 0, l5 := UInt64.ofNat 0 }, c1 := { l0 := UInt64.ofNat 0, l1 := UInt64.ofNat 0, l2 := UInt64.ofNat 0, l3 := UInt64.ofNat 0, l4 := UInt64.ofNat 0, l5 := UInt64.ofNat 0 } }, inf := true }, 0), .t))))
        (.vc (0 ≤ 48 ∧ 48 ≤ (f0 (List.take b.length (List.drop 0 b)) 96).fst.length ∧ 0 + (f0 (List.take b.length (List.drop 0 b)) 96).fst.length * 1 ≤ (List.map EK.u8.cell (f0 (List.take b.length (List.drop 0 b)) 96).fst).length ∧ 0 < 1 ∧ (0 = 0 ∨ 0 < 48) ∧ 0 = 0 ∧ 1 = 1)
          (.vc ((48 ≤ (f0 (List.take b.length (List.drop 0 b)) 96).fst.length ∧ 48 < 1125899906842624 ∧ 0 = 0 ∧ 1 = 1) ∧ littleB (List.take 48 (List.drop 0 (f0 (List.take b.length (List.drop 0 b)) 96).fst)))
            (.br ((f1 (List.take 48 (List.drop 0 (f0 (List.take b.length (List.drop 0 b)) 96).fst))).snd != 0)
              (.leaf (some ((({ x := { c0 := { l0 := UInt64.ofNat 0, l1 := UInt64.ofNat 0, l2 := UInt64.ofNat 0, l3 := UInt64.ofNat 0, l4 := UInt64.ofNat 0, l5 := UInt64.ofNat 0 }, c1 := { l0 := UInt64.ofNat 0, l1 := UInt64.ofNat 0, l2 := UInt64.ofNat 0, l3 := UInt64.ofNat 0, l4 := UInt64.ofNat 0, l5 := UInt64.ofNat 0 } }, y := { c0 := { l0 := UInt64.ofNat 0, l1 := UInt64.ofNat 0, l2 := UInt64.ofNat 0, l3 := UInt64.ofNat 0, l4 := UInt64.ofNat 0, l5 := UInt64.ofNat 0 }, c1 := { l0 := UInt64.ofNat 0, l1 := UInt64.ofNat 0, l2 := UInt64.ofNat 0, l3 := UInt64.ofNat 0, l4 := UInt64.ofNat 0, l5 := UInt64.ofNat 0 } }, inf := false }, (f1 (List.take 48 (List.drop 0 (f0 (List.take b.length (List.drop 0 b)) 96).fst))).snd), .t))))
              (.vc (48 ≤ (f0 (List.take b.length (List.drop 0 b)) 96).fst.length ∧ (f0 (List.take b.length (List.drop 0 b)) 96).fst.length ≤ (f0 (List.take b.length (List.drop 0 b)) 96).fst.length ∧ 0 + (f0 (List.take b.length (List.drop 0 b)) 96).fst.length * 1 ≤ (List.map EK.u8.cell (f0 (List.take b.length (List.drop 0 b)) 96).fst).length ∧ 0 < 1 ∧ (48 = 0 ∨ 48 < (f0 (List.take b.length (List.drop 0 b)) 96).fst.length) ∧ 0 = 0 ∧ 1 = 1)
                (.vc ((48 + ((f0 (List.take b.length (List.drop 0 b)) 96).fst.length - 48) ≤ (f0 (List.take b.length (List.drop 0 b)) 96).fst.length ∧ (f0 (List.take b.length (List.drop 0 b)) 96).fst.length - 48 < 1125899906842624 ∧ 48 = 48 ∧ 1 = 1) ∧ littleB (List.take ((f0 (List.take b.length (List.drop 0 b)) 96).fst.length - 48) (List.drop 48 (f0 (List.take b.length (List.drop 0 b)) 96).fst)))
                  (.br ((f1 (List.take ((f0 (List.take b.length (List.drop 0 b)) 96).fst.length - 48) (List.drop 48 (f0 (List.take b.length (List.drop 0 b)) 96).fst))).snd != 0)
                    (.leaf (some ((({ x := { c0 := { l0 := UInt64.ofNat 0, l1 := UInt64.ofNat 0, l2 := UInt64.ofNat 0, l3 := UInt64.ofNat 0, l4 := UInt64.ofNat 0, l5 := UInt64.ofNat 0 }, c1 := { l0 := UInt64.ofNat 0, l1 := UInt64.ofNat 0, l2 := UInt64.ofNat 0, l3 := UInt64.ofNat 0, l4 := UInt64.ofNat 0, l5 := UInt64.ofNat 0 } }, y := { c0 := { l0 := UInt64.ofNat 0, l1 := UInt64.ofNat 0, l2 := UInt64.ofNat 0, l3 := UInt64.ofNat 0, l4 := UInt64.ofNat 0, l5 := UInt64.ofNat 0 }, c1 := { l0 := UInt64.ofNat 0, l1 := UInt64.ofNat 0, l2 := UInt64.ofNat 0, l3 := UInt64.ofNat 0, l4 := UInt64.ofNat 0, l5 := UInt64.ofNat 0 } }, inf := false }, (f1 (List.take ((f0 (List.take b.length (List.drop 0 b)) 96).fst.length - 48) (List.drop 48 (f0 (List.take b.length (List.drop 0 b)) 96).fst))).snd), .t))))
                    (.br ((f0 (List.take b.length (List.drop 0 b)) 96).snd.snd.fst)
                      (.br (!((f2 (f3 (f4 (f4 { c0 := (f1 (List.take ((f0 (List.take b.length (List.drop 0 b)) 96).fst.length - 48) (List.drop 48 (f0 (List.take b.length (List.drop 0 b)) 96).fst))).fst, c1 := (f1 (List.take 48 (List.drop 0 (f0 (List.take b.length (List.drop 0 b)) 96).fst))).fst } { c0 := (f1 (List.take ((f0 (List.take b.length (List.drop 0 b)) 96).fst.length - 48) (List.drop 48 (f0 (List.take b.length (List.drop 0 b)) 96).fst))).fst, c1 := (f1 (List.take 48 (List.drop 0 (f0 (List.take b.length (List.drop 0 b)) 96).fst))).fst }) { c0 := (f1 (List.take ((f0 (List.take b.length (List.drop 0 b)) 96).fst.length - 48) (List.drop 48 (f0 (List.take b.length (List.drop 0 b)) 96).fst))).fst, c1 := (f1 (List.take 48 (List.drop 0 (f0 (List.take b.length (List.drop 0 b)) 96).fst))).fst }) { c0 := { l0 := UInt64.ofNat 4, l1 := UInt64.ofNat 0, l2 := UInt64.ofNat 0, l3 := UInt64.ofNat 0, l4 := UInt64.ofNat 0, l5 := UInt64.ofNat 0 }, c1 := { l0 := UInt64.ofNat 4, l1 := UInt64.ofNat 0, l2 := UInt64.ofNat 0, l3 := UInt64.ofNat 0, l4 := UInt64.ofNat 0, l5 := UInt64.ofNat 0 } })).snd))
                        (.leaf (some ((({ x := { c0 := { l0 := UInt64.ofNat 0, l1 := UInt64.ofNat 0, l2 := UInt64.ofNat 0, l3 := UInt64.ofNat 0, l4 := UInt64.ofNat 0, l5 := UInt64.ofNat 0 }, c1 := { l0 := UInt64.ofNat 0, l1 := UInt64.ofNat 0, l2 := UInt64.ofNat 0, l3 := UInt64.ofNat 0, l4 := UInt64.ofNat 0, l5 := UInt64.ofNat 0 } }, y := { c0 := { l0 := UInt64.ofNat 0, l1 := UInt64.ofNat 0, l2 := UInt64.ofNat 0, l3 := UInt64.ofNat 0, l4 := UInt64.ofNat 0, l5 := UInt64.ofNat 0 }, c1 := { l0 := UInt64.ofNat 0, l1 := UInt64.ofNat 0, l2 := UInt64.ofNat 0, l3 := UInt64.ofNat 0, l4 := UInt64.ofNat 0, l5 := UInt64.ofNat 0 } }, inf := false }, 5), .t))))
                        (.br ((f0 (List.take b.length (List.drop 0 b)) 96).snd.snd.fst)
                          (.br (fp2Eq ((f2 (f3 (f4 (f4 { c0 := (f1 (List.take ((f0 (List.take b.length (List.drop 0 b)) 96).fst.length - 48) (List.drop 48 (f0 (List.take b.length (List.drop 0 b)) 96).fst))).fst, c1 := (f1 (List.take 48 (List.drop 0 (f0 (List.take b.length (List.drop 0 b)) 96).fst))).fst } { c0 := (f1 (List.take ((f0 (List.take b.length (List.drop 0 b)) 96).fst.length - 48) (List.drop 48 (f0 (List.take b.length (List.drop 0 b)) 96).fst))).fst, c1 := (f1 (List.take 48 (List.drop 0 (f0 (List.take b.length (List.drop 0 b)) 96).fst))).fst }) { c0 := (f1 (List.take ((f0 (List.take b.length (List.drop 0 b)) 96).fst.length - 48) (List.drop 48 (f0 (List.take b.length (List.drop 0 b)) 96).fst))).fst, c1 := (f1 (List.take 48 (List.drop 0 (f0 (List.take b.length (List.drop 0 b)) 96).fst))).fst }) { c0 := { l0 := UInt64.ofNat 4, l1 := UInt64.ofNat 0, l2 := UInt64.ofNat 0, l3 := UInt64.ofNat 0, l4 := UInt64.ofNat 0, l5 := UInt64.ofNat 0 }, c1 := { l0 := UInt64.ofNat 4, l1 := UInt64.ofNat 0, l2 := UInt64.ofNat 0, l3 := UInt64.ofNat 0, l4 := UInt64.ofNat 0, l5 := UInt64.ofNat 0 } })).fst) ({ c0 := { l0 := UInt64.ofNat 0, l1 := UInt64.ofNat 0, l2 := UInt64.ofNat 0, l3 := UInt64.ofNat 0, l4 := UInt64.ofNat 0, l5 := UInt64.ofNat 0 }, c1 := { l0 := UInt64.ofNat 0, l1 := UInt64.ofNat 0, l2 := UInt64.ofNat 0, l3 := UInt64.ofNat 0, l4 := UInt64.ofNat 0, l5 := UInt64.ofNat 0 } }))
                            (.leaf (some ((({ x := { c0 := { l0 := UInt64.ofNat 0, l1 := UInt64.ofNat 0, l2 := UInt64.ofNat 0, l3 := UInt64.ofNat 0, l4 := UInt64.ofNat 0, l5 := UInt64.ofNat 0 }, c1 := { l0 := UInt64.ofNat 0, l1 := UInt64.ofNat 0, l2 := UInt64.ofNat 0, l3 := UInt64.ofNat 0, l4 := UInt64.ofNat 0, l5 := UInt64.ofNat 0 } }, y := { c0 := { l0 := UInt64.ofNat 0, l1 := UInt64.ofNat 0, l2 := UInt64.ofNat 0, l3 := UInt64.ofNat 0, l4 := UInt64.ofNat 0, l5 := UInt64.ofNat 0 }, c1 := { l0 := UInt64.ofNat 0, l1 := UInt64.ofNat 0, l2 := UInt64.ofNat 0, l3 := UInt64.ofNat 0, l4 := UInt64.ofNat 0, l5 := UInt64.ofNat 0 } }, inf := false }, 3), .t))))
                            (.br (!(f6 (f5 { x := { c0 := (f1 (List.take ((f0 (List.take b.length (List.drop 0 b)) 96).fst.length - 48) (List.drop 48 (f0 (List.take b.length (List.drop 0 b)) 96).fst))).fst, c1 := (f1 (List.take 48 (List.drop 0 (f0 (List.take b.length (List.drop 0 b)) 96).fst))).fst }, y := (f2 (f3 (f4 (f4 { c0 := (f1 (List.take ((f0 (List.take b.length (List.drop 0 b)) 96).fst.length - 48) (List.drop 48 (f0 (List.take b.length (List.drop 0 b)) 96).fst))).fst, c1 := (f1 (List.take 48 (List.drop 0 (f0 (List.take b.length (List.drop 0 b)) 96).fst))).fst } { c0 := (f1 (List.take ((f0 (List.take b.length (List.drop 0 b)) 96).fst.length - 48) (List.drop 48 (f0 (List.take b.length (List.drop 0 b)) 96).fst))).fst, c1 := (f1 (List.take 48 (List.drop 0 (f0 (List.take b.length (List.drop 0 b)) 96).fst))).fst }) { c0 := (f1 (List.take ((f0 (List.take b.length (List.drop 0 b)) 96).fst.length - 48) (List.drop 48 (f0 (List.take b.length (List.drop 0 b)) 96).fst))).fst, c1 := (f1 (List.take 48 (List.drop 0 (f0 (List.take b.length (List.drop 0 b)) 96).fst))).fst }) { c0 := { l0 := UInt64.ofNat 4, l1 := UInt64.ofNat 0, l2 := UInt64.ofNat 0, l3 := UInt64.ofNat 0, l4 := UInt64.ofNat 0, l5 := UInt64.ofNat 0 }, c1 := { l0 := UInt64.ofNat 4, l1 := UInt64.ofNat 0, l2 := UInt64.ofNat 0, l3 := UInt64.ofNat 0, l4 := UInt64.ofNat 0, l5 := UInt64.ofNat 0 } })).fst, inf := false })))
                              (.leaf (some ((({ x := { c0 := { l0 := UInt64.ofNat 0, l1 := UInt64.ofNat 0, l2 := UInt64.ofNat 0, l3 := UInt64.ofNat 0, l4 := UInt64.ofNat 0, l5 := UInt64.ofNat 0 }, c1 := { l0 := UInt64.ofNat 0, l1 := UInt64.ofNat 0, l2 := UInt64.ofNat 0, l3 := UInt64.ofNat 0, l4 := UInt64.ofNat 0, l5 := UInt64.ofNat 0 } }, y := { c0 := { l0 := UInt64.ofNat 0, l1 := UInt64.ofNat 0, l2 := UInt64.ofNat 0, l3 := UInt64.ofNat 0, l4 := UInt64.ofNat 0, l5 := UInt64.ofNat 0 }, c1 := { l0 := UInt64.ofNat 0, l1 := UInt64.ofNat 0, l2 := UInt64.ofNat 0, l3 := UInt64.ofNat 0, l4 := UInt64.ofNat 0, l5 := UInt64.ofNat 0 } }, inf := false }, 6), .t))))
                              (.leaf (some (((f5 { x := { c0 := (f1 (List.take ((f0 (List.take b.length (List.drop 0 b)) 96).fst.length - 48) (List.drop 48 (f0 (List.take b.length (List.drop 0 b)) 96).fst))).fst, c1 := (f1 (List.take 48 (List.drop 0 (f0 (List.take b.length (List.drop 0 b)) 96).fst))).fst }, y := (f2 (f3 (f4 (f4 { c0 := (f1 (List.take ((f0 (List.take b.length (List.drop 0 b)) 96).fst.length - 48) (List.drop 48 (f0 (List.take b.length (List.drop 0 b)) 96).fst))).fst, c1 := (f1 (List.take 48 (List.drop 0 (f0 (List.take b.length (List.drop 0 b)) 96).fst))).fst } { c0 := (f1 (List.take ((f0 (List.take b.length (List.drop 0 b)) 96).fst.length - 48) (List.drop 48 (f0 (List.take b.length (List.drop 0 b)) 96).fst))).fst, c1 := (f1 (List.take 48 (List.drop 0 (f0 (List.take b.length (List.drop 0 b)) 96).fst))).fst }) { c0 := (f1 (List.take ((f0 (List.take b.length (List.drop 0 b)) 96).fst.length - 48) (List.drop 48 (f0 (List.take b.length (List.drop 0 b)) 96).fst))).fst, c1 := (f1 (List.take 48 (List.drop 0 (f0 (List.take b.length (List.drop 0 b)) 96).fst))).fst }) { c0 := { l0 := UInt64.ofNat 4, l1 := UInt64.ofNat 0, l2 := UInt64.ofNat 0, l3 := UInt64.ofNat 0, l4 := UInt64.ofNat 0, l5 := UInt64.ofNat 0 }, c1 := { l0 := UInt64.ofNat 4, l1 := UInt64.ofNat 0, l2 := UInt64.ofNat 0, l3 := UInt64.ofNat 0, l4 := UInt64.ofNat 0, l5 := UInt64.ofNat 0 } })).fst, inf := false }, 0), .t))))))
                          (.br (!(f6 (f5 { x := { c0 := (f1 (List.take ((f0 (List.take b.length (List.drop 0 b)) 96).fst.length - 48) (List.drop 48 (f0 (List.take b.length (List.drop 0 b)) 96).fst))).fst, c1 := (f1 (List.take 48 (List.drop 0 (f0 (List.take b.length (List.drop 0 b)) 96).fst))).fst }, y := (f2 (f3 (f4 (f4 { c0 := (f1 (List.take ((f0 (List.take b.length (List.drop 0 b)) 96).fst.length - 48) (List.drop 48 (f0 (List.take b.length (List.drop 0 b)) 96).fst))).fst, c1 := (f1 (List.take 48 (List.drop 0 (f0 (List.take b.length (List.drop 0 b)) 96).fst))).fst } { c0 := (f1 (List.take ((f0 (List.take b.length (List.drop 0 b)) 96).fst.length - 48) (List.drop 48 (f0 (List.take b.length (List.drop 0 b)) 96).fst))).fst, c1 := (f1 (List.take 48 (List.drop 0 (f0 (List.take b.length (List.drop 0 b)) 96).fst))).fst }) { c0 := (f1 (List.take ((f0 (List.take b.length (List.drop 0 b)) 96).fst.length - 48) (List.drop 48 (f0 (List.take b.length (List.drop 0 b)) 96).fst))).fst, c1 := (f1 (List.take 48 (List.drop 0 (f0 (List.take b.length (List.drop 0 b)) 96).fst))).fst }) { c0 := { l0 := UInt64.ofNat 4, l1 := UInt64.ofNat 0, l2 := UInt64.ofNat 0, l3 := UInt64.ofNat 0, l4 := UInt64.ofNat 0, l5 := UInt64.ofNat 0 }, c1 := { l0 := UInt64.ofNat 4, l1 := UInt64.ofNat 0, l2 := UInt64.ofNat 0, l3 := UInt64.ofNat 0, l4 := UInt64.ofNat 0, l5 := UInt64.ofNat 0 } })).fst, inf := false })))
                            (.leaf (some ((({ x := { c0 := { l0 := UInt64.ofNat 0, l1 := UInt64.ofNat 0, l2 := UInt64.ofNat 0, l3 := UInt64.ofNat 0, l4 := UInt64.ofNat 0, l5 := UInt64.ofNat 0 }, c1 := { l0 := UInt64.ofNat 0, l1 := UInt64.ofNat 0, l2 := UInt64.ofNat 0, l3 := UInt64.ofNat 0, l4 := UInt64.ofNat 0, l5 := UInt64.ofNat 0 } }, y := { c0 := { l0 := UInt64.ofNat 0, l1 := UInt64.ofNat 0, l2 := UInt64.ofNat 0, l3 := UInt64.ofNat 0, l4 := UInt64.ofNat 0, l5 := UInt64.ofNat 0 }, c1 := { l0 := UInt64.ofNat 0, l1 := UInt64.ofNat 0, l2 := UInt64.ofNat 0, l3 := UInt64.ofNat 0, l4 := UInt64.ofNat 0, l5 := UInt64.ofNat 0 } }, inf := false }, 6), .t))))
                            (.leaf (some (((f5 { x := { c0 := (f1 (List.take ((f0 (List.take b.length (List.drop 0 b)) 96).fst.length - 48) (List.drop 48 (f0 (List.take b.length (List.drop 0 b)) 96).fst))).fst, c1 := (f1 (List.take 48 (List.drop 0 (f0 (List.take b.length (List.drop 0 b)) 96).fst))).fst }, y := (f2 (f3 (f4 (f4 { c0 := (f1 (List.take ((f0 (List.take b.length (List.drop 0 b)) 96).fst.length - 48) (List.drop 48 (f0 (List.take b.length (List.drop 0 b)) 96).fst))).fst, c1 := (f1 (List.take 48 (List.drop 0 (f0 (List.take b.length (List.drop 0 b)) 96).fst))).fst } { c0 := (f1 (List.take ((f0 (List.take b.length (List.drop 0 b)) 96).fst.length - 48) (List.drop 48 (f0 (List.take b.length (List.drop 0 b)) 96).fst))).fst, c1 := (f1 (List.take 48 (List.drop 0 (f0 (List.take b.length (List.drop 0 b)) 96).fst))).fst }) { c0 := (f1 (List.take ((f0 (List.take b.length (List.drop 0 b)) 96).fst.length - 48) (List.drop 48 (f0 (List.take b.length (List.drop 0 b)) 96).fst))).fst, c1 := (f1 (List.take 48 (List.drop 0 (f0 (List.take b.length (List.drop 0 b)) 96).fst))).fst }) { c0 := { l0 := UInt64.ofNat 4, l1 := UInt64.ofNat 0, l2 := UInt64.ofNat 0, l3 := UInt64.ofNat 0, l4 := UInt64.ofNat 0, l5 := UInt64.ofNat 0 }, c1 := { l0 := UInt64.ofNat 4, l1 := UInt64.ofNat 0, l2 := UInt64.ofNat 0, l3 := UInt64.ofNat 0, l4 := UInt64.ofNat 0, l5 := UInt64.ofNat 0 } })).fst, inf := false }, 0), .t)))))))
                      (.br (!((f2 (f3 (f4 (f4 { c0 := (f1 (List.take ((f0 (List.take b.length (List.drop 0 b)) 96).fst.length - 48) (List.drop 48 (f0 (List.take b.length (List.drop 0 b)) 96).fst))).fst, c1 := (f1 (List.take 48 (List.drop 0 (f0 (List.take b.length (List.drop 0 b)) 96).fst))).fst } { c0 := (f1 (List.take ((f0 (List.take b.length (List.drop 0 b)) 96).fst.length - 48) (List.drop 48 (f0 (List.take b.length (List.drop 0 b)) 96).fst))).fst, c1 := (f1 (List.take 48 (List.drop 0 (f0 (List.take b.length (List.drop 0 b)) 96).fst))).fst }) { c0 := (f1 (List.take ((f0 (List.take b.length (List.drop 0 b)) 96).fst.length - 48) (List.drop 48 (f0 (List.take b.length (List.drop 0 b)) 96).fst))).fst, c1 := (f1 (List.take 48 (List.drop 0 (f0 (List.take b.length (List.drop 0 b)) 96).fst))).fst }) { c0 := { l0 := UInt64.ofNat 4, l1 := UInt64.ofNat 0, l2 := UInt64.ofNat 0, l3 := UInt64.ofNat 0, l4 := UInt64.ofNat 0, l5 := UInt64.ofNat 0 }, c1 := { l0 := UInt64.ofNat 4, l1 := UInt64.ofNat 0, l2 := UInt64.ofNat 0, l3 := UInt64.ofNat 0, l4 := UInt64.ofNat 0, l5 := UInt64.ofNat 0 } })).snd))
                        (.leaf (some ((({ x := { c0 := { l0 := UInt64.ofNat 0, l1 := UInt64.ofNat 0, l2 := UInt64.ofNat 0, l3 := UInt64.ofNat 0, l4 := UInt64.ofNat 0, l5 := UInt64.ofNat 0 }, c1 := { l0 := UInt64.ofNat 0, l1 := UInt64.ofNat 0, l2 := UInt64.ofNat 0, l3 := UInt64.ofNat 0, l4 := UInt64.ofNat 0, l5 := UInt64.ofNat 0 } }, y := { c0 := { l0 := UInt64.ofNat 0, l1 := UInt64.ofNat 0, l2 := UInt64.ofNat 0, l3 := UInt64.ofNat 0, l4 := UInt64.ofNat 0, l5 := UInt64.ofNat 0 }, c1 := { l0 := UInt64.ofNat 0, l1 := UInt64.ofNat 0, l2 := UInt64.ofNat 0, l3 := UInt64.ofNat 0, l4 := UInt64.ofNat 0, l5 := UInt64.ofNat 0 } }, inf := false }, 5), .t))))
                        (.br ((f0 (List.take b.length (List.drop 0 b)) 96).snd.snd.fst)
                          (.br (fp2Eq ((f2 (f3 (f4 (f4 { c0 := (f1 (List.take ((f0 (List.take b.length (List.drop 0 b)) 96).fst.length - 48) (List.drop 48 (f0 (List.take b.length (List.drop 0 b)) 96).fst))).fst, c1 := (f1 (List.take 48 (List.drop 0 (f0 (List.take b.length (List.drop 0 b)) 96).fst))).fst } { c0 := (f1 (List.take ((f0 (List.take b.length (List.drop 0 b)) 96).fst.length - 48) (List.drop 48 (f0 (List.take b.length (List.drop 0 b)) 96).fst))).fst, c1 := (f1 (List.take 48 (List.drop 0 (f0 (List.take b.length (List.drop 0 b)) 96).fst))).fst }) { c0 := (f1 (List.take ((f0 (List.take b.length (List.drop 0 b)) 96).fst.length - 48) (List.drop 48 (f0 (List.take b.length (List.drop 0 b)) 96).fst))).fst, c1 := (f1 (List.take 48 (List.drop 0 (f0 (List.take b.length (List.drop 0 b)) 96).fst))).fst }) { c0 := { l0 := UInt64.ofNat 4, l1 := UInt64.ofNat 0, l2 := UInt64.ofNat 0, l3 := UInt64.ofNat 0, l4 := UInt64.ofNat 0, l5 := UInt64.ofNat 0 }, c1 := { l0 := UInt64.ofNat 4, l1 := UInt64.ofNat 0, l2 := UInt64.ofNat 0, l3 := UInt64.ofNat 0, l4 := UInt64.ofNat 0, l5 := UInt64.ofNat 0 } })).fst) ({ c0 := { l0 := UInt64.ofNat 0, l1 := UInt64.ofNat 0, l2 := UInt64.ofNat 0, l3 := UInt64.ofNat 0, l4 := UInt64.ofNat 0, l5 := UInt64.ofNat 0 }, c1 := { l0 := UInt64.ofNat 0, l1 := UInt64.ofNat 0, l2 := UInt64.ofNat 0, l3 := UInt64.ofNat 0, l4 := UInt64.ofNat 0, l5 := UInt64.ofNat 0 } }))
                            (.leaf (some ((({ x := { c0 := { l0 := UInt64.ofNat 0, l1 := UInt64.ofNat 0, l2 := UInt64.ofNat 0, l3 := UInt64.ofNat 0, l4 := UInt64.ofNat 0, l5 := UInt64.ofNat 0 }, c1 := { l0 := UInt64.ofNat 0, l1 := UInt64.ofNat 0, l2 := UInt64.ofNat 0, l3 := UInt64.ofNat 0, l4 := UInt64.ofNat 0, l5 := UInt64.ofNat 0 } }, y := { c0 := { l0 := UInt64.ofNat 0, l1 := UInt64.ofNat 0, l2 := UInt64.ofNat 0, l3 := UInt64.ofNat 0, l4 := UInt64.ofNat 0, l5 := UInt64.ofNat 0 }, c1 := { l0 := UInt64.ofNat 0, l1 := UInt64.ofNat 0, l2 := UInt64.ofNat 0, l3 := UInt64.ofNat 0, l4 := UInt64.ofNat 0, l5 := UInt64.ofNat 0 } }, inf := false }, 3), .t))))
                            (.br (!(f6 { x := { c0 := (f1 (List.take ((f0 (List.take b.length (List.drop 0 b)) 96).fst.length - 48) (List.drop 48 (f0 (List.take b.length (List.drop 0 b)) 96).fst))).fst, c1 := (f1 (List.take 48 (List.drop 0 (f0 (List.take b.length (List.drop 0 b)) 96).fst))).fst }, y := (f2 (f3 (f4 (f4 { c0 := (f1 (List.take ((f0 (List.take b.length (List.drop 0 b)) 96).fst.length - 48) (List.drop 48 (f0 (List.take b.length (List.drop 0 b)) 96).fst))).fst, c1 := (f1 (List.take 48 (List.drop 0 (f0 (List.take b.length (List.drop 0 b)) 96).fst))).fst } { c0 := (f1 (List.take ((f0 (List.take b.length (List.drop 0 b)) 96).fst.length - 48) (List.drop 48 (f0 (List.take b.length (List.drop 0 b)) 96).fst))).fst, c1 := (f1 (List.take 48 (List.drop 0 (f0 (List.take b.length (List.drop 0 b)) 96).fst))).fst }) { c0 := (f1 (List.take ((f0 (List.take b.length (List.drop 0 b)) 96).fst.length - 48) (List.drop 48 (f0 (List.take b.length (List.drop 0 b)) 96).fst))).fst, c1 := (f1 (List.take 48 (List.drop 0 (f0 (List.take b.length (List.drop 0 b)) 96).fst))).fst }) { c0 := { l0 := UInt64.ofNat 4, l1 := UInt64.ofNat 0, l2 := UInt64.ofNat 0, l3 := UInt64.ofNat 0, l4 := UInt64.ofNat 0, l5 := UInt64.ofNat 0 }, c1 := { l0 := UInt64.ofNat 4, l1 := UInt64.ofNat 0, l2 := UInt64.ofNat 0, l3 := UInt64.ofNat 0, l4 := UInt64.ofNat 0, l5 := UInt64.ofNat 0 } })).fst, inf := false }))
                              (.leaf (some ((({ x := { c0 := { l0 := UInt64.ofNat 0, l1 := UInt64.ofNat 0, l2 := UInt64.ofNat 0, l3 := UInt64.ofNat 0, l4 := UInt64.ofNat 0, l5 := UInt64.ofNat 0 }, c1 := { l0 := UInt64.ofNat 0, l1 := UInt64.ofNat 0, l2 := UInt64.ofNat 0, l3 := UInt64.ofNat 0, l4 := UInt64.ofNat 0, l5 := UInt64.ofNat 0 } }, y := { c0 := { l0 := UInt64.ofNat 0, l1 := UInt64.ofNat 0, l2 := UInt64.ofNat 0, l3 := UInt64.ofNat 0, l4 := UInt64.ofNat 0, l5 := UInt64.ofNat 0 }, c1 := { l0 := UInt64.ofNat 0, l1 := UInt64.ofNat 0, l2 := UInt64.ofNat 0, l3 := UInt64.ofNat 0, l4 := UInt64.ofNat 0, l5 := UInt64.ofNat 0 } }, inf := false }, 6), .t))))
                              (.leaf (some ((({ x := { c0 := (f1 (List.take ((f0 (List.take b.length (List.drop 0 b)) 96).fst.length - 48) (List.drop 48 (f0 (List.take b.length (List.drop 0 b)) 96).fst))).fst, c1 := (f1 (List.take 48 (List.drop 0 (f0 (List.take b.length (List.drop 0 b)) 96).fst))).fst }, y := (f2 (f3 (f4 (f4 { c0 := (f1 (List.take ((f0 (List.take b.length (List.drop 0 b)) 96).fst.length - 48) (List.drop 48 (f0 (List.take b.length (List.drop 0 b)) 96).fst))).fst, c1 := (f1 (List.take 48 (List.drop 0 (f0 (List.take b.length (List.drop 0 b)) 96).fst))).fst } { c0 := (f1 (List.take ((f0 (List.take b.length (List.drop 0 b)) 96).fst.length - 48) (List.drop 48 (f0 (List.take b.length (List.drop 0 b)) 96).fst))).fst, c1 := (f1 (List.take 48 (List.drop 0 (f0 (List.take b.length (List.drop 0 b)) 96).fst))).fst }) { c0 := (f1 (List.take ((f0 (List.take b.length (List.drop 0 b)) 96).fst.length - 48) (List.drop 48 (f0 (List.take b.length (List.drop 0 b)) 96).fst))).fst, c1 := (f1 (List.take 48 (List.drop 0 (f0 (List.take b.length (List.drop 0 b)) 96).fst))).fst }) { c0 := { l0 := UInt64.ofNat 4, l1 := UInt64.ofNat 0, l2 := UInt64.ofNat 0, l3 := UInt64.ofNat 0, l4 := UInt64.ofNat 0, l5 := UInt64.ofNat 0 }, c1 := { l0 := UInt64.ofNat 4, l1 := UInt64.ofNat 0, l2 := UInt64.ofNat 0, l3 := UInt64.ofNat 0, l4 := UInt64.ofNat 0, l5 := UInt64.ofNat 0 } })).fst, inf := false }, 0), .t))))))
                          (.br (!(f6 { x := { c0 := (f1 (List.take ((f0 (List.take b.length (List.drop 0 b)) 96).fst.length - 48) (List.drop 48 (f0 (List.take b.length (List.drop 0 b)) 96).fst))).fst, c1 := (f1 (List.take 48 (List.drop 0 (f0 (List.take b.length (List.drop 0 b)) 96).fst))).fst }, y := (f2 (f3 (f4 (f4 { c0 := (f1 (List.take ((f0 (List.take b.length (List.drop 0 b)) 96).fst.length - 48) (List.drop 48 (f0 (List.take b.length (List.drop 0 b)) 96).fst))).fst, c1 := (f1 (List.take 48 (List.drop 0 (f0 (List.take b.length (List.drop 0 b)) 96).fst))).fst } { c0 := (f1 (List.take ((f0 (List.take b.length (List.drop 0 b)) 96).fst.length - 48) (List.drop 48 (f0 (List.take b.length (List.drop 0 b)) 96).fst))).fst, c1 := (f1 (List.take 48 (List.drop 0 (f0 (List.take b.length (List.drop 0 b)) 96).fst))).fst }) { c0 := (f1 (List.take ((f0 (List.take b.length (List.drop 0 b)) 96).fst.length - 48) (List.drop 48 (f0 (List.take b.length (List.drop 0 b)) 96).fst))).fst, c1 := (f1 (List.take 48 (List.drop 0 (f0 (List.take b.length (List.drop 0 b)) 96).fst))).fst }) { c0 := { l0 := UInt64.ofNat 4, l1 := UInt64.ofNat 0, l2 := UInt64.ofNat 0, l3 := UInt64.ofNat 0, l4 := UInt64.ofNat 0, l5 := UInt64.ofNat 0 }, c1 := { l0 := UInt64.ofNat 4, l1 := UInt64.ofNat 0, l2 := UInt64.ofNat 0, l3 := UInt64.ofNat 0, l4 := UInt64.ofNat 0, l5 := UInt64.ofNat 0 } })).fst, inf := false }))
                            (.leaf (some ((({ x := { c0 := { l0 := UInt64.ofNat 0, l1 := UInt64.ofNat 0, l2 := UInt64.ofNat 0, l3 := UInt64.ofNat 0, l4 := UInt64.ofNat 0, l5 := UInt64.ofNat 0 }, c1 := { l0 := UInt64.ofNat 0, l1 := UInt64.ofNat 0, l2 := UInt64.ofNat 0, l3 := UInt64.ofNat 0, l4 := UInt64.ofNat 0, l5 := UInt64.ofNat 0 } }, y := { c0 := { l0 := UInt64.ofNat 0, l1 := UInt64.ofNat 0, l2 := UInt64.ofNat 0, l3 := UInt64.ofNat 0, l4 := UInt64.ofNat 0, l5 := UInt64.ofNat 0 }, c1 := { l0 := UInt64.ofNat 0, l1 := UInt64.ofNat 0, l2 := UInt64.ofNat 0, l3 := UInt64.ofNat 0, l4 := UInt64.ofNat 0, l5 := UInt64.ofNat 0 } }, inf := false }, 6), .t))))
                            (.leaf (some ((({ x := { c0 := (f1 (List.take ((f0 (List.take b.length (List.drop 0 b)) 96).fst.length - 48) (List.drop 48 (f0 (List.take b.length (List.drop 0 b)) 96).fst))).fst, c1 := (f1 (List.take 48 (List.drop 0 (f0 (List.take b.length (List.drop 0 b)) 96).fst))).fst }, y := (f2 (f3 (f4 (f4 { c0 := (f1 (List.take ((f0 (List.take b.length (List.drop 0 b)) 96).fst.length - 48) (List.drop 48 (f0 (List.take b.length (List.drop 0 b)) 96).fst))).fst, c1 := (f1 (List.take 48 (List.drop 0 (f0 (List.take b.length (List.drop 0 b)) 96).fst))).fst } { c0 := (f1 (List.take ((f0 (List.take b.length (List.drop 0 b)) 96).fst.length - 48) (List.drop 48 (f0 (List.take b.length (List.drop 0 b)) 96).fst))).fst, c1 := (f1 (List.take 48 (List.drop 0 (f0 (List.take b.length (List.drop 0 b)) 96).fst))).fst }) { c0 := (f1 (List.take ((f0 (List.take b.length (List.drop 0 b)) 96).fst.length - 48) (List.drop 48 (f0 (List.take b.length (List.drop 0 b)) 96).fst))).fst, c1 := (f1 (List.take 48 (List.drop 0 (f0 (List.take b.length (List.drop 0 b)) 96).fst))).fst }) { c0 := { l0 := UInt64.ofNat 4, l1 := UInt64.ofNat 0, l2 := UInt64.ofNat 0, l3 := UInt64.ofNat 0, l4 := UInt64.ofNat 0, l5 := UInt64.ofNat 0 }, c1 := { l0 := UInt64.ofNat 4, l1 := UInt64.ofNat 0, l2 := UInt64.ofNat 0, l3 := UInt64.ofNat 0, l4 := UInt64.ofNat 0, l5 := UInt64.ofNat 0 } })).fst, inf := false }, 0), .t)))))))))))))))))
theorem take2F_run (f0 : List UInt8 → Int → List UInt8 × Bool × Bool × Int) (f1 : List UInt8 → Fp × Int) (f2 : Fp2 → Fp2 × Bool) (f3 : Fp2 → Fp2 → Fp2) (f4 : Fp2 → Fp2 → Fp2) (f5 : Pg2 → Pg2) (f6 : Pg2 → Bool) (b : List UInt8) : endT (Ens [(90, K2 aBs aN oB4.res f0), (91, Kftake f1), (100, K1 (kRow Fp2).arg ((kRow Fp2).rs2 kBool).res f2), (101, K2 (kRow Fp2).arg (kRow Fp2).arg (kRow Fp2).rs.res f3), (102, K2 (kRow Fp2).arg (kRow Fp2).arg (kRow Fp2).rs.res f4), (103, K1 (kRow Pg2).arg (kRow Pg2).rs.res f5), (104, K1 (kRow Pg2).arg kBool.rs.res f6)] [90]) ((kRow Pg2).rs2 kInt).out 300 Tryz.f46 (flat (codeOf Tryz.f46)) (startSt Tryz.f46 [iBs.av 0 b] [inHE eU8 b]) = take2F_T f0 f1 f2 f3 f4 f5 f6 b := by kernel_rfl
def take2F (b : List UInt8) : Pg2 × Int := (take2F_T bareF ftakeF sqrtF2 addF2 mulF2 negG2 inG2 b).outD (pg20, 0)
theorem take2F_ok' (h : ∀ (b : List UInt8), iBs.fact b → (take2F_T bareF ftakeF sqrtF2 addF2 mulF2 negG2 inG2 b).full = true ∧ (take2F_T bareF ftakeF sqrtF2 addF2 mulF2 negG2 inG2 b).okAll) : CallOk Tryz.prog 46 (K1 aBs ((kRow Pg2).rs2 kInt).out.res take2F) :=
  Go.Proofs.YtbbnabednkopdaaGreat.G1 (E := Ens [(90, K2 aBs aN oB4.res bareF), (91, Kftake ftakeF), (100, K1 (kRow Fp2).arg ((kRow Fp2).rs2 kBool).res sqrtF2), (101, K2 (kRow Fp2).arg (kRow Fp2).arg (kRow Fp2).rs.res addF2), (102, K2 (kRow Fp2).arg (kRow Fp2).arg (kRow Fp2).rs.res mulF2), (103, K1 (kRow Pg2).arg (kRow Pg2).rs.res negG2), (104, K1 (kRow Pg2).arg kBool.rs.res inG2)] [90]) Tryz.func46 (c := codeOf Tryz.f46) (by kernel_rfl) (bodied Tryz.func46 (by kernel_rfl) (by kernel_rfl)) iBs ((kRow Pg2).rs2 kInt).out take2F fun b hb => DoesL.outs (Ens_ok (.cons bare_ok (.cons ftake_ok (.cons sqrtF2_ok (.cons addF2_ok (.cons mulF2_ok (.cons negG2_ok (.cons inG2_ok .nil)))))))) 300 (pg20, 0) (take2F_run bareF ftakeF sqrtF2 addF2 mulF2 negG2 inG2 b) (h b hb).1 (h b hb).2
end Go.Proofs.YtbbnabednkopdaaGreat

set_option linter.unusedSimpArgs false
set_option linter.unusedVariables false
namespace Go.Proofs.YtbbnabednkopdaaGreat
open Go.RowKit
abbrev okF (f : List UInt8 → Int → List UInt8 × Bool × Bool × Int) (b : List UInt8) (n : Int) : Prop := (f b n).1.length ≤ b.length ∧ ((f b n).2.2.2 = 0 → (f b n).2.1 = false → ((f b n).1.length : Int) = n)
theorem int2 : ¬ ((2 : Int) = 0) := by decide
theorem int3 : ¬ ((3 : Int) = 0) := by decide
theorem int8 : ¬ ((8 : Int) = 0) := by decide
theorem bareG_ok (c1 c2 c3 c4 c5 c6 : Bool) (l : List UInt8) {m : Nat} {n : Int} (hl : l.length ≤ m) (h : c1 = false → c2 = false → (l.length : Int) = n) : (bareG c1 c2 c3 c4 c5 c6 l).1.length ≤ m ∧ ((bareG c1 c2 c3 c4 c5 c6 l).2.2.2 = 0 → (bareG c1 c2 c3 c4 c5 c6 l).2.1 = false → ((bareG c1 c2 c3 c4 c5 c6 l).1.length : Int) = n) := by
  cases c1 <;> cases c2 <;> cases c3 <;> cases c4 <;> cases c5 <;> cases c6 <;> first
    | exact ⟨hl, fun _ _ => h rfl rfl⟩
    | exact ⟨hl, fun _ h => Bool.noConfusion h⟩
    | exact ⟨Nat.zero_le _, fun h => absurd h int2⟩
    | exact ⟨Nat.zero_le _, fun h => absurd h int3⟩
    | exact ⟨Nat.zero_le _, fun h => absurd h int8⟩
theorem bare_okF (b : List UInt8) (n : Int) : okF bareF b n :=
  bareG_ok _ _ _ _ _ _ (bareL b) (Nat.le_of_eq (bareL_len b)) fun h1 h2 => by
    have h1 := of_decide_eq_false h1
    have h2 := of_decide_eq_false h2
    have hl := bareL_len b
    omega
theorem int_zero {n : Int} (h : (n != 0) = false) : n = 0 := by simpa using h
theorem size48 : sizeB 48 := ⟨by decide, by decide⟩
theorem size96 : sizeB 96 := ⟨by decide, by decide⟩
theorem takes_b {l : List UInt8} {s n : Nat} (h : n < 16777216) : littleB (List.take n (List.drop s l)) := by show (List.take n (List.drop s l)).length < _; rw [List.length_take]; omega
theorem map_b (l : List UInt8) : (List.map EK.u8.cell l).length = l.length := u8_map l
theorem take1_all {f0 : List UInt8 → Int → List UInt8 × Bool × Bool × Int} {f1 f2 f3 f4 f5 f6 f7} (b : List UInt8) (hF : okF f0 b 48) (hb : b.length < 16777216) : (take1F_T f0 f1 f2 f3 f4 f5 f6 f7 b).full = true ∧ (take1F_T f0 f1 f2 f3 f4 f5 f6 f7 b).okAll := by
  refine ⟨rfl, ?_⟩
  obtain ⟨h1, h2⟩ := hF
  unfold take1F_T
  simp only [Tree.okAll, whole8, Pr.holds, implies_true, and_true, true_and]
  have h3 := Nat.lt_of_le_of_lt h1 hb
  refine ⟨⟨⟨?_, hb⟩, size48⟩, fun _ _ => ⟨?_, h3⟩⟩ <;> omega
theorem take2_all {f0 : List UInt8 → Int → List UInt8 × Bool × Bool × Int} {f1 f2 f3 f4 f5 f6} (b : List UInt8) (hF : okF f0 b 96) (hb : b.length < 16777216) : (take2F_T f0 f1 f2 f3 f4 f5 f6 b).full = true ∧ (take2F_T f0 f1 f2 f3 f4 f5 f6 b).okAll := by
  refine ⟨rfl, ?_⟩
  obtain ⟨h1, h2⟩ := hF
  unfold take2F_T
  simp only [Tree.okAll, whole8, Pr.holds, implies_true, and_true, true_and]
  refine ⟨⟨⟨by omega, hb⟩, size96⟩, fun a1 a2 => ?_⟩
  have hl : (f0 b 96).1.length = 96 := by have := h2 (int_zero a1) a2; omega
  have hm := map_b (f0 b 96).1
  refine ⟨?_, ⟨?_, takes_b (by omega)⟩, fun _ => ⟨?_, ?_, takes_b (by omega)⟩⟩ <;> omega
theorem take1F_ok : CallOk Tryz.prog 44 (K1 aBs ((kRow Pg1).rs2 kInt).out.res take1F) := take1F_ok' fun b hb => take1_all b (bare_okF b 48) hb.2
theorem take2F_ok : CallOk Tryz.prog 46 (K1 aBs ((kRow Pg2).rs2 kInt).out.res take2F) := take2F_ok' fun b hb => take2_all b (bare_okF b 96) hb.2
end Go.Proofs.YtbbnabednkopdaaGreat

set_option linter.unusedSimpArgs false
set_option linter.unusedVariables false
namespace Go.Proofs.YtbbnabednkopdaaGreat
open Go.RowKit
theorem outD_br {ρ : Type} (c : Bool) (x y : Tree (Option (ρ × Pr))) (d : ρ) : (Tree.br c x y).outD d = cond c (x.outD d) (y.outD d) := by cases c <;> rfl
theorem outD_vc {ρ : Type} (p : Prop) (x : Tree (Option (ρ × Pr))) (d : ρ) : (Tree.vc p x).outD d = x.outD d := rfl
theorem outD_leaf {ρ : Type} (y : ρ) (p : Pr) (d : ρ) : (Tree.leaf (some (y, p))).outD d = y := rfl
def hdB (l : List UInt8) (t : UInt8) : List UInt8 := l.set 0 (l.getD 0 0 + t)
theorem hdB_len (l : List UInt8) (t : UInt8) : (hdB l t).length = l.length := List.length_set ..
def inf1B : List UInt8 := hdB (List.replicate 48 0) 192
def inf2B : List UInt8 := hdB (List.replicate 96 0) 192
theorem put1F_val (a : Pg1) : put1F a = cond a.inf inf1B (markF (fputF a.x) (false, greatF a.y, ())) := by
  unfold put1F put1_T
  simp only [outD_br, outD_vc, outD_leaf]
  rw [show ∀ x, List.take (fputF a.x).length (markF (fputF a.x) x) = markF (fputF a.x) x from fun x => List.take_of_length_le (Nat.le_of_eq (markF_len _ _))]
  rfl
theorem put2F_val (a : Pg2) : put2F a = cond a.inf inf2B (markF (fputF a.x.c1 ++ fputF a.x.c0) (false, greatF2 a.y, ())) := by
  unfold put2F put2_T
  simp only [outD_br, outD_vc, outD_leaf, whole8]
  rw [← List.length_append, show ∀ x, List.take (fputF a.x.c1 ++ fputF a.x.c0).length (markF (fputF a.x.c1 ++ fputF a.x.c0) x) = markF (fputF a.x.c1 ++ fputF a.x.c0) x from fun x => List.take_of_length_le (Nat.le_of_eq (markF_len _ _))]
  rfl
theorem put1F_len (a : Pg1) : (put1F a).length = 48 := by
  rw [put1F_val]
  cases a.inf
  · exact (markF_len _ _).trans (fput_len' _)
  · rfl
theorem put2F_len (a : Pg2) : (put2F a).length = 96 := by
  rw [put2F_val]
  cases a.inf
  · exact (markF_len _ _).trans (by rw [List.length_append, fput_len', fput_len'])
  · rfl
def begun10_T (f0 : Pg1) (f1 : Pg1 → List UInt8) (f2 : List UInt8 → Pg1 × Int) (f3 : Pg2) (f4 : Pg2 → List UInt8) (f5 : List UInt8 → Pg2 × Int) : Tree (Option ((Bool) × Pr)) :=
  (.vc ((0 + (f1 f0).length ≤ (f1 f0).length ∧ (f1 f0).length < 1125899906842624 ∧ 0 = 0 ∧ 1 = 1) ∧ littleB (List.take (f1 f0).length (List.drop 0 (f1 f0))))
    (.vc ((0 + (f4 f3).length ≤ (f4 f3).length ∧ (f4 f3).length < 1125899906842624 ∧ 0 = 0 ∧ 1 = 1) ∧ littleB (List.take (f4 f3).length (List.drop 0 (f4 f3))))
      (.br ((f2 (List.take (f1 f0).length (List.drop 0 (f1 f0)))).snd == 0)
        (.br (pg1Eq ((f2 (List.take (f1 f0).length (List.drop 0 (f1 f0)))).fst) (f0))
          (.br ((f5 (List.take (f4 f3).length (List.drop 0 (f4 f3)))).snd == 0)
            (.leaf (some (((f5 (List.take (f4 f3).length (List.drop 0 (f4 f3)))).fst.x.c0.l0 == f3.x.c0.l0 && ((f5 (List.take (f4 f3).length (List.drop 0 (f4 f3)))).fst.x.c0.l1 == f3.x.c0.l1 && ((f5 (List.take (f4 f3).length (List.drop 0 (f4 f3)))).fst.x.c0.l2 == f3.x.c0.l2 && ((f5 (List.take (f4 f3).length (List.drop 0 (f4 f3)))).fst.x.c0.l3 == f3.x.c0.l3 && ((f5 (List.take (f4 f3).length (List.drop 0 (f4 f3)))).fst.x.c0.l4 == f3.x.c0.l4 && ((f5 (List.take (f4 f3).length (List.drop 0 (f4 f3)))).fst.x.c0.l5 == f3.x.c0.l5 && true))))) && ((f5 (List.take (f4 f3).length (List.drop 0 (f4 f3)))).fst.x.c1.l0 == f3.x.c1.l0 && ((f5 (List.take (f4 f3).length (List.drop 0 (f4 f3)))).fst.x.c1.l1 == f3.x.c1.l1 && ((f5 (List.take (f4 f3).length (List.drop 0 (f4 f3)))).fst.x.c1.l2 == f3.x.c1.l2 && ((f5 (List.take (f4 f3).length (List.drop 0 (f4 f3)))).fst.x.c1.l3 == f3.x.c1.l3 && ((f5 (List.take (f4 f3).length (List.drop 0 (f4 f3)))).fst.x.c1.l4 == f3.x.c1.l4 && ((f5 (List.take (f4 f3).length (List.drop 0 (f4 f3)))).fst.x.c1.l5 == f3.x.c1.l5 && true))))) && true) && ((f5 (List.take (f4 f3).length (List.drop 0 (f4 f3)))).fst.y.c0.l0 == f3.y.c0.l0 && ((f5 (List.take (f4 f3).length (List.drop 0 (f4 f3)))).fst.y.c0.l1 == f3.y.c0.l1 && ((f5 (List.take (f4 f3).length (List.drop 0 (f4 f3)))).fst.y.c0.l2 == f3.y.c0.l2 && ((f5 (List.take (f4 f3).length (List.drop 0 (f4 f3)))).fst.y.c0.l3 == f3.y.c0.l3 && ((f5 (List.take (f4 f3).length (List.drop 0 (f4 f3)))).fst.y.c0.l4 == f3.y.c0.l4 && ((f5 (List.take (f4 f3).length (List.drop 0 (f4 f3)))).fst.y.c0.l5 == f3.y.c0.l5 && true))))) && ((f5 (List.take (f4 f3).length (List.drop 0 (f4 f3)))).fst.y.c1.l0 == f3.y.c1.l0 && ((f5 (List.take (f4 f3).length (List.drop 0 (f4 f3)))).fst.y.c1.l1 == f3.y.c1.l1 && ((f5 (List.take (f4 f3).length (List.drop 0 (f4 f3)))).fst.y.c1.l2 == f3.y.c1.l2 && ((f5 (List.take (f4 f3).length (List.drop 0 (f4 f3)))).fst.y.c1.l3 == f3.y.c1.l3 && ((f5 (List.take (f4 f3).length (List.drop 0 (f4 f3)))).fst.y.c1.l4 == f3.y.c1.l4 && ((f5 (List.take (f4 f3).length (List.drop 0 (f4 f3)))).fst.y.c1.l5 == f3.y.c1.l5 && true))))) && true) && ((f5 (List.take (f4 f3).length (List.drop 0 (f4 f3)))).fst.inf == f3.inf && true)), .t))))
            (.leaf (some ((false, .t)))))
          (.leaf (some ((false, .t)))))
        (.leaf (some ((false, .t)))))))
theorem begun10_run (f0 : Pg1) (f1 : Pg1 → List UInt8) (f2 : List UInt8 → Pg1 × Int) (f3 : Pg2) (f4 : Pg2 → List UInt8) (f5 : List UInt8 → Pg2 × Int) : endT (Ens [(23, K0 (kRow Pg1).rs.res f0), (40, K1 kg1.arg rB f1), (44, K1 aBs ((kRow Pg1).rs2 kInt).out.res f2), (20, K0 (kRow Pg2).rs.res f3), (42, K1 kg2.arg rB f4), (46, K1 aBs ((kRow Pg2).rs2 kInt).out.res f5)] [40, 42]) kBool.rs.out 300 Tryz.f34 (flat (codeOf Tryz.f34)) (startSt Tryz.f34 [] []) = begun10_T f0 f1 f2 f3 f4 f5 := by kernel_rfl
def begun10  : Bool := (begun10_T gen1R put1F take1F gen2R put2F take2F ).outD false
theorem begun10_ok' (h : (begun10_T gen1R put1F take1F gen2R put2F take2F).full = true ∧ (begun10_T gen1R put1F take1F gen2R put2F take2F).okAll) : CallOk Tryz.prog 34 (K0  kBool.rs.out.res begun10) :=
  Go.Proofs.YtbbnabednkopdaaGreat.G0 (E := Ens [(23, K0 (kRow Pg1).rs.res gen1R), (40, K1 kg1.arg rB put1F), (44, K1 aBs ((kRow Pg1).rs2 kInt).out.res take1F), (20, K0 (kRow Pg2).rs.res gen2R), (42, K1 kg2.arg rB put2F), (46, K1 aBs ((kRow Pg2).rs2 kInt).out.res take2F)] [40, 42]) Tryz.func34 (c := codeOf Tryz.f34) (by kernel_rfl) (bodied Tryz.func34 (by kernel_rfl) (by kernel_rfl)) kBool.rs.out begun10 (DoesL.outs (Ens_ok (.cons gen1R_ok (.cons put1_ok (.cons take1F_ok (.cons gen2R_ok (.cons put2_ok (.cons take2F_ok .nil))))))) 300 false (begun10_run gen1R put1F take1F gen2R put2F take2F ) h.1 h.2)
theorem begun10_ok : CallOk Tryz.prog 34 (K0 kBool.rs.res begun10) := begun10_ok' ⟨rfl, by
  unfold begun10_T
  simp only [Tree.okAll, whole8, Pr.holds, implies_true, and_true, true_and, put1F_len, put2F_len, littleB]
  decide⟩
def ptTurned_T (f0 : Bool) (f1 : Fr → Bool) (f2 : Pg1 → Fr → Pg1) (f3 : Pg1) (f4 : Pg2 → Fr → Pg2) (f5 : Pg2) (f6 : Pg1 → List UInt8) (f7 : Pg2 → List UInt8) (f8 : List UInt8 → Pg1 × Int) (f9 : List UInt8 → Pg2 × Int) (f10 : Pg1 → Pg1) (f11 : Pg2 → Pg2) (k : Fr) : Tree (Option ((Bool) × Pr)) :=
  (.br (!(f0))
    (.leaf (some ((false, .t))))
    (.br (!(f1 k))
      (.leaf (some ((true, .t))))
      (.br (frEq (k) ({ l0 := UInt64.ofNat 0, l1 := UInt64.ofNat 0, l2 := UInt64.ofNat 0, l3 := UInt64.ofNat 0 }))
        (.leaf (some ((true, .t))))
        (.vc (0 + (f6 (f2 f3 k)).length * 1 ≤ (List.map EK.u8.cell (f6 (f2 f3 k))).length ∧ 0 < 1)
          (.br ((↑(f6 (f2 f3 k)).length : Int) != 48)
            (.leaf (some ((false, .t))))
            (.vc (0 + (f7 (f4 f5 k)).length * 1 ≤ (List.map EK.u8.cell (f7 (f4 f5 k))).length ∧ 0 < 1)
              (.br ((↑(f7 (f4 f5 k)).length : Int) != 96)
                (.leaf (some ((false, .t))))
                (.vc (0 < (f6 (f2 f3 k)).length ∧ 0 + (f6 (f2 f3 k)).length * 1 ≤ (List.map EK.u8.cell (f6 (f2 f3 k))).length ∧ 0 < 1)
                  (.vc (0 < (f6 (f2 f3 k)).length)
                    (.vc (0 < (f6 (f2 f3 k)).length ∧ 0 + (f6 (f2 f3 k)).length * 1 ≤ (List.map EK.u8.cell (f6 (f2 f3 k))).length ∧ 0 < 1)
                      (.vc (0 < (f6 (f2 f3 k)).length)
                        (.vc (0 < (f7 (f4 f5 k)).length ∧ 0 + (f7 (f4 f5 k)).length * 1 ≤ (List.map EK.u8.cell (f7 (f4 f5 k))).length ∧ 0 < 1)
                          (.vc (0 < (f7 (f4 f5 k)).length)
                            (.vc (0 < (f7 (f4 f5 k)).length ∧ 0 + (f7 (f4 f5 k)).length * 1 ≤ (List.map EK.u8.cell (f7 (f4 f5 k))).length ∧ 0 < 1)
                              (.vc (0 < (f7 (f4 f5 k)).length)
                                (.vc ((0 + (f6 (f2 f3 k)).length ≤ ((f6 (f2 f3 k)).set 0 ((f6 (f2 f3 k)).getD 0 0 ^^^ UInt8.ofNat 32)).length ∧ (f6 (f2 f3 k)).length < 1125899906842624 ∧ 0 = 0 ∧ 1 = 1) ∧ littleB (List.take (f6 (f2 f3 k)).length (List.drop 0 ((f6 (f2 f3 k)).set 0 ((f6 (f2 f3 k)).getD 0 0 ^^^ UInt8.ofNat 32)))))
                                  (.vc ((0 + (f7 (f4 f5 k)).length ≤ ((f7 (f4 f5 k)).set 0 ((f7 (f4 f5 k)).getD 0 0 ^^^ UInt8.ofNat 32)).length ∧ (f7 (f4 f5 k)).length < 1125899906842624 ∧ 0 = 0 ∧ 1 = 1) ∧ littleB (List.take (f7 (f4 f5 k)).length (List.drop 0 ((f7 (f4 f5 k)).set 0 ((f7 (f4 f5 k)).getD 0 0 ^^^ UInt8.ofNat 32)))))
                                    (.br ((f8 (List.take (f6 (f2 f3 k)).length (List.drop 0 ((f6 (f2 f3 k)).set 0 ((f6 (f2 f3 k)).getD 0 0 ^^^ UInt8.ofNat 32))))).snd == 0)
                                      (.br ((f9 (List.take (f7 (f4 f5 k)).length (List.drop 0 ((f7 (f4 f5 k)).set 0 ((f7 (f4 f5 k)).getD 0 0 ^^^ UInt8.ofNat 32))))).snd == 0)
                                        (.br (pg1Eq ((f8 (List.take (f6 (f2 f3 k)).length (List.drop 0 ((f6 (f2 f3 k)).set 0 ((f6 (f2 f3 k)).getD 0 0 ^^^ UInt8.ofNat 32))))).fst) (f10 (f2 f3 k)))
                                          (.leaf (some (((f9 (List.take (f7 (f4 f5 k)).length (List.drop 0 ((f7 (f4 f5 k)).set 0 ((f7 (f4 f5 k)).getD 0 0 ^^^ UInt8.ofNat 32))))).fst.x.c0.l0 == (f11 (f4 f5 k)).x.c0.l0 && ((f9 (List.take (f7 (f4 f5 k)).length (List.drop 0 ((f7 (f4 f5 k)).set 0 ((f7 (f4 f5 k)).getD 0 0 ^^^ UInt8.ofNat 32))))).fst.x.c0.l1 == (f11 (f4 f5 k)).x.c0.l1 && ((f9 (List.take (f7 (f4 f5 k)).length (List.drop 0 ((f7 (f4 f5 k)).set 0 ((f7 (f4 f5 k)).getD 0 0 ^^^ UInt8.ofNat 32))))).fst.x.c0.l2 == (f11 (f4 f5 k)).x.c0.l2 && ((f9 (List.take (f7 (f4 f5 k)).length (List.drop 0 ((f7 (f4 f5 k)).set 0 ((f7 (f4 f5 k)).getD 0 0 ^^^ UInt8.ofNat 32))))).fst.x.c0.l3 == (f11 (f4 f5 k)).x.c0.l3 && ((f9 (List.take (f7 (f4 f5 k)).length (List.drop 0 ((f7 (f4 f5 k)).set 0 ((f7 (f4 f5 k)).getD 0 0 ^^^ UInt8.ofNat 32))))).fst.x.c0.l4 == (f11 (f4 f5 k)).x.c0.l4 && ((f9 (List.take (f7 (f4 f5 k)).length (List.drop 0 ((f7 (f4 f5 k)).set 0 ((f7 (f4 f5 k)).getD 0 0 ^^^ UInt8.ofNat 32))))).fst.x.c0.l5 == (f11 (f4 f5 k)).x.c0.l5 && true))))) && ((f9 (List.take (f7 (f4 f5 k)).length (List.drop 0 ((f7 (f4 f5 k)).set 0 ((f7 (f4 f5 k)).getD 0 0 ^^^ UInt8.ofNat 32))))).fst.x.c1.l0 == (f11 (f4 f5 k)).x.c1.l0 && ((f9 (List.take (f7 (f4 f5 k)).length (List.drop 0 ((f7 (f4 f5 k)).set 0 ((f7 (f4 f5 k)).getD 0 0 ^^^ UInt8.ofNat 32))))).fst.x.c1.l1 == (f11 (f4 f5 k)).x.c1.l1 && ((f9 (List.take (f7 (f4 f5 k)).length (List.drop 0 ((f7 (f4 f5 k)).set 0 ((f7 (f4 f5 k)).getD 0 0 ^^^ UInt8.ofNat 32))))).fst.x.c1.l2 == (f11 (f4 f5 k)).x.c1.l2 && ((f9 (List.take (f7 (f4 f5 k)).length (List.drop 0 ((f7 (f4 f5 k)).set 0 ((f7 (f4 f5 k)).getD 0 0 ^^^ UInt8.ofNat 32))))).fst.x.c1.l3 == (f11 (f4 f5 k)).x.c1.l3 && ((f9 (List.take (f7 (f4 f5 k)).length (List.drop 0 ((f7 (f4 f5 k)).set 0 ((f7 (f4 f5 k)).getD 0 0 ^^^ UInt8.ofNat 32))))).fst.x.c1.l4 == (f11 (f4 f5 k)).x.c1.l4 && ((f9 (List.take (f7 (f4 f5 k)).length (List.drop 0 ((f7 (f4 f5 k)).set 0 ((f7 (f4 f5 k)).getD 0 0 ^^^ UInt8.ofNat 32))))).fst.x.c1.l5 == (f11 (f4 f5 k)).x.c1.l5 && true))))) && true) && ((f9 (List.take (f7 (f4 f5 k)).length (List.drop 0 ((f7 (f4 f5 k)).set 0 ((f7 (f4 f5 k)).getD 0 0 ^^^ UInt8.ofNat 32))))).fst.y.c0.l0 == (f11 (f4 f5 k)).y.c0.l0 && ((f9 (List.take (f7 (f4 f5 k)).length (List.drop 0 ((f7 (f4 f5 k)).set 0 ((f7 (f4 f5 k)).getD 0 0 ^^^ UInt8.ofNat 32))))).fst.y.c0.l1 == (f11 (f4 f5 k)).y.c0.l1 && ((f9 (List.take (f7 (f4 f5 k)).length (List.drop 0 ((f7 (f4 f5 k)).set 0 ((f7 (f4 f5 k)).getD 0 0 ^^^ UInt8.ofNat 32))))).fst.y.c0.l2 == (f11 (f4 f5 k)).y.c0.l2 && ((f9 (List.take (f7 (f4 f5 k)).length (List.drop 0 ((f7 (f4 f5 k)).set 0 ((f7 (f4 f5 k)).getD 0 0 ^^^ UInt8.ofNat 32))))).fst.y.c0.l3 == (f11 (f4 f5 k)).y.c0.l3 && ((f9 (List.take (f7 (f4 f5 k)).length (List.drop 0 ((f7 (f4 f5 k)).set 0 ((f7 (f4 f5 k)).getD 0 0 ^^^ UInt8.ofNat 32))))).fst.y.c0.l4 == (f11 (f4 f5 k)).y.c0.l4 && ((f9 (List.take (f7 (f4 f5 k)).length (List.drop 0 ((f7 (f4 f5 k)).set 0 ((f7 (f4 f5 k)).getD 0 0 ^^^ UInt8.ofNat 32))))).fst.y.c0.l5 == (f11 (f4 f5 k)).y.c0.l5 && true))))) && ((f9 (List.take (f7 (f4 f5 k)).length (List.drop 0 ((f7 (f4 f5 k)).set 0 ((f7 (f4 f5 k)).getD 0 0 ^^^ UInt8.ofNat 32))))).fst.y.c1.l0 == (f11 (f4 f5 k)).y.c1.l0 && ((f9 (List.take (f7 (f4 f5 k)).length (List.drop 0 ((f7 (f4 f5 k)).set 0 ((f7 (f4 f5 k)).getD 0 0 ^^^ UInt8.ofNat 32))))).fst.y.c1.l1 == (f11 (f4 f5 k)).y.c1.l1 && ((f9 (List.take (f7 (f4 f5 k)).length (List.drop 0 ((f7 (f4 f5 k)).set 0 ((f7 (f4 f5 k)).getD 0 0 ^^^ UInt8.ofNat 32))))).fst.y.c1.l2 == (f11 (f4 f5 k)).y.c1.l2 && ((f9 (List.take (f7 (f4 f5 k)).length (List.drop 0 ((f7 (f4 f5 k)).set 0 ((f7 (f4 f5 k)).getD 0 0 ^^^ UInt8.ofNat 32))))).fst.y.c1.l3 == (f11 (f4 f5 k)).y.c1.l3 && ((f9 (List.take (f7 (f4 f5 k)).length (List.drop 0 ((f7 (f4 f5 k)).set 0 ((f7 (f4 f5 k)).getD 0 0 ^^^ UInt8.ofNat 32))))).fst.y.c1.l4 == (f11 (f4 f5 k)).y.c1.l4 && ((f9 (List.take (f7 (f4 f5 k)).length (List.drop 0 ((f7 (f4 f5 k)).set 0 ((f7 (f4 f5 k)).getD 0 0 ^^^ UInt8.ofNat 32))))).fst.y.c1.l5 == (f11 (f4 f5 k)).y.c1.l5 && true))))) && true) && ((f9 (List.take (f7 (f4 f5 k)).length (List.drop 0 ((f7 (f4 f5 k)).set 0 ((f7 (f4 f5 k)).getD 0 0 ^^^ UInt8.ofNat 32))))).fst.inf == (f11 (f4 f5 k)).inf && true)), .t))))
                                          (.leaf (some ((false, .t)))))
                                        (.leaf (some ((false, .t)))))
                                      (.leaf (some ((false, .t))))))))))))))))))))))
theorem ptTurned_run (f0 : Bool) (f1 : Fr → Bool) (f2 : Pg1 → Fr → Pg1) (f3 : Pg1) (f4 : Pg2 → Fr → Pg2) (f5 : Pg2) (f6 : Pg1 → List UInt8) (f7 : Pg2 → List UInt8) (f8 : List UInt8 → Pg1 × Int) (f9 : List UInt8 → Pg2 × Int) (f10 : Pg1 → Pg1) (f11 : Pg2 → Pg2) (k : Fr) : endT (Ens [(34, K0  kBool.rs.out.res f0), (14, Krb f1), (35, K2 (kRow Pg1).arg (kRow Fr).arg (kRow Pg1).rs.res f2), (23, K0 (kRow Pg1).rs.res f3), (36, K2 (kRow Pg2).arg (kRow Fr).arg (kRow Pg2).rs.res f4), (20, K0 (kRow Pg2).rs.res f5), (40, K1 kg1.arg rB f6), (42, K1 kg2.arg rB f7), (44, K1 aBs ((kRow Pg1).rs2 kInt).out.res f8), (46, K1 aBs ((kRow Pg2).rs2 kInt).out.res f9), (30, K1 (kRow Pg1).arg (kRow Pg1).rs.res f10), (49, K1 (kRow Pg2).arg (kRow Pg2).rs.res f11)] [40, 42]) kBool.rs.out 300 Tryz.f11 (flat (codeOf Tryz.f11)) (startSt Tryz.f11 [.one ((kRow Fr).av k)] []) = ptTurned_T f0 f1 f2 f3 f4 f5 f6 f7 f8 f9 f10 f11 k := by kernel_rfl
def ptTurned (k : Fr) : Bool := (ptTurned_T begun10 mayRF times1R gen1R times2R gen2R put1F put2F take1F take2F minus1R minus2R k).outD false
theorem ptTurned_gives' (h : ∀ (k : Fr), (ptTurned_T begun10 mayRF times1R gen1R times2R gen2R put1F put2F take1F take2F minus1R minus2R k).full = true ∧ (ptTurned_T begun10 mayRF times1R gen1R times2R gen2R put1F put2F take1F take2F minus1R minus2R k).okAll) {w : World} {vk : Value} {k : Fr} (gk : (kRow Fr).arg.is w vk k) : Gives Tryz.prog 11 #[vk] w kBool.rs.out.res (ptTurned k) :=
  G1g (E := Ens [(34, K0  kBool.rs.out.res begun10), (14, Krb mayRF), (35, K2 (kRow Pg1).arg (kRow Fr).arg (kRow Pg1).rs.res times1R), (23, K0 (kRow Pg1).rs.res gen1R), (36, K2 (kRow Pg2).arg (kRow Fr).arg (kRow Pg2).rs.res times2R), (20, K0 (kRow Pg2).rs.res gen2R), (40, K1 kg1.arg rB put1F), (42, K1 kg2.arg rB put2F), (44, K1 aBs ((kRow Pg1).rs2 kInt).out.res take1F), (46, K1 aBs ((kRow Pg2).rs2 kInt).out.res take2F), (30, K1 (kRow Pg1).arg (kRow Pg1).rs.res minus1R), (49, K1 (kRow Pg2).arg (kRow Pg2).rs.res minus2R)] [40, 42]) Tryz.func11 (c := codeOf Tryz.f11) (by kernel_rfl) (kRow Fr).inp kBool.rs.out (ptTurned k) gk fun _ => DoesL.outs (Ens_ok (.cons begun10_ok (.cons mayR_ok (.cons times1R_ok (.cons gen1R_ok (.cons times2R_ok (.cons gen2R_ok (.cons put1_ok (.cons put2_ok (.cons take1F_ok (.cons take2F_ok (.cons minus1R_ok (.cons minus2R_ok .nil))))))))))))) 300 false (ptTurned_run begun10 mayRF times1R gen1R times2R gen2R put1F put2F take1F take2F minus1R minus2R k) (h k).1 (h k).2
end Go.Proofs.YtbbnabednkopdaaGreat

set_option linter.unusedSimpArgs false
set_option linter.unusedVariables false
namespace Go.Proofs.YtbbnabednkopdaaGreat
open Go.RowKit
def bFp1 : Fp := ⟨4, 0, 0, 0, 0, 0⟩
theorem bFp1_v : bFp1.ok ∧ bFp1.v = Crv.b := ⟨ofF_ok 4, by
  show (ofF 4).v = 4
  rw [v_of]
  exact V1.ext (by decide +kernel)⟩
theorem onG1_inf {f0 : Fp → Bool} {f1 : Fp → Fp → Fp} {f2 : Fp → Fp} {p : Pg1} (h : p.inf = true) : onG1_G f0 f1 f2 p = pg1Eq p infG1 := by unfold onG1_G; rw [h]
theorem onG1_aff {f0 : Fp → Bool} {f1 : Fp → Fp → Fp} {f2 : Fp → Fp} {p : Pg1} (h : p.inf = false) : onG1_G f0 f1 f2 p = (f0 p.x && f0 p.y && fpEq (f1 p.y p.y) (f2 p.x)) := by
  unfold onG1_G
  rw [h]
  cases f0 p.x <;> cases f0 p.y <;> rfl
theorem liftG1_inf {f0 : Fp → Fp} {p : Pg1} (h : p.inf = true) : liftG1_G f0 p = zeroSp := by unfold liftG1_G; rw [h]
theorem liftG1_aff {f0 : Fp → Fp} {p : Pg1} (h : p.inf = false) : liftG1_G f0 p = ⟨f0 p.x, f0 p.y, f0 oneFp⟩ := by unfold liftG1_G; rw [h]
theorem negG1_inf {f0 : Fp → Fp} {p : Pg1} (h : p.inf = true) : negG1_G f0 p = p := by unfold negG1_G; rw [h]
theorem negG1_aff {f0 : Fp → Fp} {p : Pg1} (h : p.inf = false) : negG1_G f0 p = ⟨p.x, f0 p.y, false⟩ := by unfold negG1_G; rw [h]
theorem zeroG1_eq (a : Fp) : zeroG1 a = fpEq a zeroFp := by unfold zeroG1 zeroG1_G; rfl
def Pg1.pt (p : Pg1) : Pt V1 := match p.inf with
  | true => .inf
  | false => .aff p.x.v p.y.v
def Pg1.ok (p : Pg1) : Prop := p = infG1 ∨ (p.inf = false ∧ p.x.ok ∧ p.y.ok)
def Pg1.good (p : Pg1) : Prop := p.ok ∧ p.pt.on
theorem pt1_inf {p : Pg1} (h : p.inf = true) : p.pt = .inf := by unfold Pg1.pt; rw [h]
theorem pt1_aff {p : Pg1} (h : p.inf = false) : p.pt = .aff p.x.v p.y.v := by unfold Pg1.pt; rw [h]
theorem good_inf1 : infG1.good := ⟨.inl rfl, trivial⟩
theorem ok_inf1 {p : Pg1} (h : p.ok) (hi : p.inf = true) : p = infG1 := by
  rcases h with h | ⟨h, _⟩
  · exact h
  · rw [hi] at h; cases h
theorem ok_aff1 {p : Pg1} (h : p.ok) (hi : p.inf = false) : p.x.ok ∧ p.y.ok := by
  rcases h with h | ⟨_, h⟩
  · rw [h] at hi; cases hi
  · exact h
theorem good1_mk {x y : Fp} {u v : V1} (hx : x.ok) (hy : y.ok) (ex : x.v = u) (ey : y.v = v) (h : (Pt.aff u v).on) : (⟨x, y, false⟩ : Pg1).good ∧ (⟨x, y, false⟩ : Pg1).pt = .aff u v := by
  subst ex ey
  exact ⟨⟨.inr ⟨rfl, hx, hy⟩, h⟩, rfl⟩
def m1 (a : Fp) : V1 := ri * a.v
theorem m1_add {a b : Fp} (ha : a.ok) (hb : b.ok) : m1 (addF a b) = m1 a + m1 b := by unfold m1; rw [v_add1 ha hb]; exact CR.dist _ _ _
theorem m1_sub {a b : Fp} (ha : a.ok) (hb : b.ok) : m1 (subF a b) = m1 a - m1 b := by unfold m1; rw [v_sub1 ha hb]; grind
theorem m1_half {a b : Fp} (ha : a.ok) (hb : b.ok) : m1 (halfF a b) = m1 a * m1 b := by unfold m1; rw [v_half1 ha hb]; grind
theorem m1_whole {a : Fp} (ha : a.ok) : m1 (wholeF a) = a.v := by
  unfold m1
  rw [v_whole1 ha]
  have := rv_ri
  grind
theorem ri_ne1 : ri ≠ 0 := fun e => one_ne' (K := V1) (by rw [← rv_ri, e]; exact CR.mul_zero _)
theorem m1_zero {a : Fp} (ha : a.ok) : zeroG1 a = true ↔ m1 a = 0 := by
  rw [zeroG1_eq, eq_v1 ha zero_ok1, v_zero1]
  unfold m1
  constructor
  · intro h; rw [h]; exact CR.mul_zero _
  · intro h; exact (mul_eq_zero' h).resolve_left ri_ne1
theorem m1_nonzero {a : Fp} (ha : a.ok) : zeroG1 a = false ↔ m1 a ≠ 0 := by rw [← Bool.not_eq_true, m1_zero ha]
def rel1 (s : Sp1) (p : Pt V1) : Prop := (s.x.ok ∧ s.y.ok ∧ s.z.ok) ∧ Jc (m1 s.x) (m1 s.y) (m1 s.z) p
theorem rel1_mk {x y z : Fp} {p : Pt V1} (hx : x.ok) (hy : y.ok) (hz : z.ok) (h : Jc (m1 x) (m1 y) (m1 z) p) : rel1 ⟨x, y, z⟩ p := ⟨⟨hx, hy, hz⟩, h⟩
theorem rel1_inf : rel1 zeroSp .inf := ⟨⟨zero_ok1, zero_ok1, zero_ok1⟩, by
  show m1 zeroFp = 0
  unfold m1
  rw [v_zero1]
  exact CR.mul_zero _⟩
theorem lift1_rel {p : Pg1} (h : p.good) : rel1 (liftG1 p) p.pt := by
  unfold liftG1
  cases hi : p.inf with
  | true => rw [liftG1_inf hi, pt1_inf hi]; exact rel1_inf
  | false =>
    obtain ⟨hx, hy⟩ := ok_aff1 h.1 hi
    rw [liftG1_aff hi, pt1_aff hi]
    refine rel1_mk (whole_ok1 hx) (whole_ok1 hy) (whole_ok1 one_ok1) ?_
    rw [m1_whole hx, m1_whole hy, m1_whole one_ok1, v_one1]
    exact ⟨one_ne', by grind, by grind⟩
theorem jx_of (x y : V1) : ((x * x + x * x) + x * x) * ((x * x + x * x) + x * x) - ((x * (y * y) + x * (y * y) + (x * (y * y) + x * (y * y))) + (x * (y * y) + x * (y * y) + (x * (y * y) + x * (y * y)))) = jx x y := by unfold jx; grind
theorem jy_of (x y : V1) : ((x * x + x * x) + x * x) * ((x * (y * y) + x * (y * y) + (x * (y * y) + x * (y * y))) - jx x y) - ((y * y * (y * y) + y * y * (y * y) + (y * y * (y * y) + y * y * (y * y))) + (y * y * (y * y) + y * y * (y * y) + (y * y * (y * y) + y * y * (y * y)))) = jy x y := by unfold jy; generalize jx x y = k; grind
theorem jz_of (y z : V1) : y * z + y * z = jz y z := by unfold jz; grind
theorem twice1_rel {s : Sp1} {p : Pt V1} (hp : p.on) (h : rel1 s p) : rel1 (twiceG1 s) (p.add p) := by
  obtain ⟨⟨hx, hy, hz⟩, hj⟩ := h
  have ha := half_ok1 hx hx
  have hb := half_ok1 hy hy
  have hc := half_ok1 hb hb
  have hd := half_ok1 hx hb
  have hd2 := add_ok1 hd hd
  have hd4 := add_ok1 hd2 hd2
  have he := add_ok1 (add_ok1 ha ha) ha
  have hee := half_ok1 he he
  have hd8 := add_ok1 hd4 hd4
  have hX := sub_ok1 hee hd8
  have hc2 := add_ok1 hc hc
  have hc4 := add_ok1 hc2 hc2
  have hc8 := add_ok1 hc4 hc4
  have hyz := half_ok1 hy hz
  have hs := sub_ok1 hd4 hX
  have hes := half_ok1 he hs
  have hj' := twice_all hp hj
  have e1 := m1_sub hee hd8
  rw [m1_half he he, m1_add hd4 hd4, m1_add hd2 hd2, m1_add hd hd, m1_half hx hb, m1_half hy hy, m1_add (add_ok1 ha ha) ha, m1_add ha ha, m1_half hx hx, jx_of] at e1
  have e2 := m1_sub hes hc8
  rw [m1_half he hs, m1_sub hd4 hX, e1, m1_add hc4 hc4, m1_add hc2 hc2, m1_add hc hc, m1_half hb hb, m1_add hd2 hd2, m1_add hd hd, m1_half hx hb, m1_half hy hy, m1_add (add_ok1 ha ha) ha, m1_add ha ha, m1_half hx hx, jy_of] at e2
  have e3 := m1_add hyz hyz
  rw [m1_half hy hz, jz_of] at e3
  unfold twiceG1 twiceG1_G
  refine rel1_mk hX (sub_ok1 hes hc8) (add_ok1 hyz hyz) ?_
  rw [e1, e2, e3]
  exact hj'
section
variable {f0 : Fp → Bool} {f1 f2 f4 : Fp → Fp → Fp} {f3 : Sp1 → Sp1} {s t : Sp1}
theorem plusG1_l (h : f0 s.z = true) : plusG1_G f0 f1 f2 f3 f4 s t = t := by unfold plusG1_G; rw [h]
theorem plusG1_r (h : f0 s.z = false) (h2 : f0 t.z = true) : plusG1_G f0 f1 f2 f3 f4 s t = s := by unfold plusG1_G; rw [h, h2]
theorem plusG1_tw (h : f0 s.z = false) (h2 : f0 t.z = false) (h3 : f0 (f2 (f1 t.x (f1 s.z s.z)) (f1 s.x (f1 t.z t.z))) = true) (h4 : f0 (f2 (f1 t.y (f1 (f1 s.z s.z) s.z)) (f1 s.y (f1 (f1 t.z t.z) t.z))) = true) : plusG1_G f0 f1 f2 f3 f4 s t = f3 s := by
  unfold plusG1_G
  rw [h, h2, h3, h4]
theorem plusG1_no (h : f0 s.z = false) (h2 : f0 t.z = false) (h3 : f0 (f2 (f1 t.x (f1 s.z s.z)) (f1 s.x (f1 t.z t.z))) = true) (h4 : f0 (f2 (f1 t.y (f1 (f1 s.z s.z) s.z)) (f1 s.y (f1 (f1 t.z t.z) t.z))) = false) : plusG1_G f0 f1 f2 f3 f4 s t = zeroSp := by
  unfold plusG1_G
  rw [h, h2, h3, h4]
theorem plusG1_all (h : f0 s.z = false) (h2 : f0 t.z = false) (h3 : f0 (f2 (f1 t.x (f1 s.z s.z)) (f1 s.x (f1 t.z t.z))) = false) : plusG1_G f0 f1 f2 f3 f4 s t = ⟨(f2 (f2 (f1 (f2 (f1 t.y (f1 (f1 s.z s.z) s.z)) (f1 s.y (f1 (f1 t.z t.z) t.z))) (f2 (f1 t.y (f1 (f1 s.z s.z) s.z)) (f1 s.y (f1 (f1 t.z t.z) t.z)))) (f1 (f1 (f2 (f1 t.x (f1 s.z s.z)) (f1 s.x (f1 t.z t.z))) (f2 (f1 t.x (f1 s.z s.z)) (f1 s.x (f1 t.z t.z)))) (f2 (f1 t.x (f1 s.z s.z)) (f1 s.x (f1 t.z t.z))))) (f4 (f1 (f1 s.x (f1 t.z t.z)) (f1 (f2 (f1 t.x (f1 s.z s.z)) (f1 s.x (f1 t.z t.z))) (f2 (f1 t.x (f1 s.z s.z)) (f1 s.x (f1 t.z t.z))))) (f1 (f1 s.x (f1 t.z t.z)) (f1 (f2 (f1 t.x (f1 s.z s.z)) (f1 s.x (f1 t.z t.z))) (f2 (f1 t.x (f1 s.z s.z)) (f1 s.x (f1 t.z t.z))))))), (f2 (f1 (f2 (f1 t.y (f1 (f1 s.z s.z) s.z)) (f1 s.y (f1 (f1 t.z t.z) t.z))) (f2 (f1 (f1 s.x (f1 t.z t.z)) (f1 (f2 (f1 t.x (f1 s.z s.z)) (f1 s.x (f1 t.z t.z))) (f2 (f1 t.x (f1 s.z s.z)) (f1 s.x (f1 t.z t.z))))) (f2 (f2 (f1 (f2 (f1 t.y (f1 (f1 s.z s.z) s.z)) (f1 s.y (f1 (f1 t.z t.z) t.z))) (f2 (f1 t.y (f1 (f1 s.z s.z) s.z)) (f1 s.y (f1 (f1 t.z t.z) t.z)))) (f1 (f1 (f2 (f1 t.x (f1 s.z s.z)) (f1 s.x (f1 t.z t.z))) (f2 (f1 t.x (f1 s.z s.z)) (f1 s.x (f1 t.z t.z)))) (f2 (f1 t.x (f1 s.z s.z)) (f1 s.x (f1 t.z t.z))))) (f4 (f1 (f1 s.x (f1 t.z t.z)) (f1 (f2 (f1 t.x (f1 s.z s.z)) (f1 s.x (f1 t.z t.z))) (f2 (f1 t.x (f1 s.z s.z)) (f1 s.x (f1 t.z t.z))))) (f1 (f1 s.x (f1 t.z t.z)) (f1 (f2 (f1 t.x (f1 s.z s.z)) (f1 s.x (f1 t.z t.z))) (f2 (f1 t.x (f1 s.z s.z)) (f1 s.x (f1 t.z t.z))))))))) (f1 (f1 s.y (f1 (f1 t.z t.z) t.z)) (f1 (f1 (f2 (f1 t.x (f1 s.z s.z)) (f1 s.x (f1 t.z t.z))) (f2 (f1 t.x (f1 s.z s.z)) (f1 s.x (f1 t.z t.z)))) (f2 (f1 t.x (f1 s.z s.z)) (f1 s.x (f1 t.z t.z)))))), (f1 (f1 s.z t.z) (f2 (f1 t.x (f1 s.z s.z)) (f1 s.x (f1 t.z t.z))))⟩ := by
  unfold plusG1_G
  rw [h, h2, h3]
end
theorem px_of (u h r : V1) : r * r - h * h * h - (u * (h * h) + u * (h * h)) = r * r - h * h * h - 2 * (u * (h * h)) := by grind
theorem plus1_rel {s t : Sp1} {p q : Pt V1} (hp : p.on) (hq : q.on) (hs : rel1 s p) (ht : rel1 t q) : rel1 (plusG1 s t) (p.add q) := by
  have hs0 := hs
  have ht0 := ht
  obtain ⟨⟨hx, hy, hz⟩, hj⟩ := hs
  obtain ⟨⟨kx, ky, kz⟩, kj⟩ := ht
  unfold plusG1
  by_cases z1 : m1 s.z = 0
  · rw [plusG1_l ((m1_zero hz).2 z1), hj.inf_of z1, inf_add]
    exact ht0
  by_cases z2 : m1 t.z = 0
  · rw [plusG1_r ((m1_nonzero hz).2 z1) ((m1_zero kz).2 z2), kj.inf_of z2, add_inf]
    exact hs0
  have n1 := (m1_nonzero hz).2 z1
  have n2 := (m1_nonzero kz).2 z2
  have zz := half_ok1 hz hz
  have ww := half_ok1 kz kz
  have zzz := half_ok1 zz hz
  have www := half_ok1 ww kz
  have hu := half_ok1 hx ww
  have hv := half_ok1 kx zz
  have ha := half_ok1 hy www
  have hb := half_ok1 ky zzz
  have hh := sub_ok1 hv hu
  have hr := sub_ok1 hb ha
  have eh : m1 (subF (halfF t.x (halfF s.z s.z)) (halfF s.x (halfF t.z t.z))) = m1 t.x * (m1 s.z * m1 s.z) - m1 s.x * (m1 t.z * m1 t.z) := by
    rw [m1_sub hv hu, m1_half kx zz, m1_half hx ww, m1_half hz hz, m1_half kz kz]
  have er : m1 (subF (halfF t.y (halfF (halfF s.z s.z) s.z)) (halfF s.y (halfF (halfF t.z t.z) t.z))) = m1 t.y * (m1 s.z * m1 s.z * m1 s.z) - m1 s.y * (m1 t.z * m1 t.z * m1 t.z) := by
    rw [m1_sub hb ha, m1_half ky zzz, m1_half hy www, m1_half zz hz, m1_half ww kz, m1_half hz hz, m1_half kz kz]
  by_cases h0 : m1 t.x * (m1 s.z * m1 s.z) - m1 s.x * (m1 t.z * m1 t.z) = 0
  · obtain ⟨c1, c2⟩ := plus_same hp hq hj kj z1 z2 h0
    have n3 := (m1_zero hh).2 (by rw [eh]; exact h0)
    by_cases r0 : m1 t.y * (m1 s.z * m1 s.z * m1 s.z) - m1 s.y * (m1 t.z * m1 t.z * m1 t.z) = 0
    · rw [plusG1_tw n1 n2 n3 ((m1_zero hr).2 (by rw [er]; exact r0)), c1 r0]
      exact twice1_rel hp hs0
    · rw [plusG1_no n1 n2 n3 ((m1_nonzero hr).2 (by rw [er]; exact r0)), c2 r0]
      exact rel1_inf
  · rw [plusG1_all n1 n2 ((m1_nonzero hh).2 (by rw [eh]; exact h0))]
    have key := plus_all hp hq hj kj z1 z2 h0
    have h2 := half_ok1 hh hh
    have h3 := half_ok1 h2 hh
    have hw := half_ok1 hu h2
    have hrr := half_ok1 hr hr
    have hw2 := add_ok1 hw hw
    have hrh := sub_ok1 hrr h3
    have hX := sub_ok1 hrh hw2
    have hwx := sub_ok1 hw hX
    have hrw := half_ok1 hr hwx
    have hah := half_ok1 ha h3
    have hst := half_ok1 hz kz
    have eu : m1 (halfF s.x (halfF t.z t.z)) = m1 s.x * (m1 t.z * m1 t.z) := by rw [m1_half hx ww, m1_half kz kz]
    have ea : m1 (halfF s.y (halfF (halfF t.z t.z) t.z)) = m1 s.y * (m1 t.z * m1 t.z * m1 t.z) := by rw [m1_half hy www, m1_half ww kz, m1_half kz kz]
    have e1 := m1_sub hrh hw2
    rw [m1_sub hrr h3, m1_half hr hr, er, m1_half h2 hh, m1_half hh hh, eh, m1_add hw hw, m1_half hu h2, eu, m1_half hh hh, eh, px_of] at e1
    have e1' : _ = px (m1 s.x) (m1 s.y) (m1 s.z) (m1 t.x) (m1 t.y) (m1 t.z) := e1
    have e2 := m1_sub hrw hah
    rw [m1_half hr hwx, m1_sub hw hX, e1', m1_half hu h2, eu, m1_half hh hh, eh, m1_half ha h3, ea, m1_half h2 hh, m1_half hh hh, eh, er] at e2
    have e3 := m1_half hst hh
    rw [m1_half hz kz, eh] at e3
    refine rel1_mk hX (sub_ok1 hrw hah) (half_ok1 hst hh) ?_
    rw [e1', e2, e3]
    exact key
theorem neg1_pt {a : Pg1} (ha : a.good) : (negG1 a).good ∧ (negG1 a).pt = a.pt.neg := by
  unfold negG1
  cases hi : a.inf with
  | true =>
    rw [negG1_inf hi, pt1_inf hi]
    exact ⟨ha, rfl⟩
  | false =>
    obtain ⟨hx, hy⟩ := ok_aff1 ha.1 hi
    have ho := neg_on ha.2
    rw [pt1_aff hi] at ho ⊢
    rw [negG1_aff hi]
    exact good1_mk hx (neg_ok1 hy) rfl (v_neg1 hy) ho
theorem rhs1_G_eq (f0 f1 : Fp → Fp → Fp) (x : Fp) : rhsG1_G f0 f1 x = f0 (f1 (f1 x x) x) bFp1 := rfl
theorem rhs1_v {x : Fp} (hx : x.ok) : (rhsG1 x).ok ∧ (rhsG1 x).v = x.v * x.v * x.v + Crv.b := by
  have hb : bFp1.ok ∧ bFp1.v = Crv.b := bFp1_v
  have h2 := mul_ok1 hx hx
  have h3 := mul_ok1 h2 hx
  unfold rhsG1
  rw [rhs1_G_eq]
  refine ⟨add_ok1 h3 hb.1, ?_⟩
  rw [v_add1 h3 hb.1, v_mul1 h2 hx, v_mul1 hx hx, hb.2]
theorem on1_iff (p : Pg1) : onG1 p = true ↔ p.good := by
  unfold onG1
  cases hi : p.inf with
  | true =>
    rw [onG1_inf hi, pg1Eq_iff]
    constructor
    · intro h; rw [h]; exact good_inf1
    · intro h; exact ok_inf1 h.1 hi
  | false =>
    rw [onG1_aff hi, Bool.and_eq_true, Bool.and_eq_true, may1_iff, may1_iff]
    constructor
    · rintro ⟨⟨hx, hy⟩, h⟩
      obtain ⟨r1, r2⟩ := rhs1_v hx
      rw [eq_v1 (mul_ok1 hy hy) r1, v_mul1 hy hy, r2] at h
      exact ⟨.inr ⟨hi, hx, hy⟩, by rw [pt1_aff hi]; exact h⟩
    · intro h
      obtain ⟨hx, hy⟩ := ok_aff1 h.1 hi
      obtain ⟨r1, r2⟩ := rhs1_v hx
      refine ⟨⟨hx, hy⟩, ?_⟩
      rw [eq_v1 (mul_ok1 hy hy) r1, v_mul1 hy hy, r2]
      have := h.2
      rw [pt1_aff hi] at this
      exact this
end Go.Proofs.YtbbnabednkopdaaGreat

set_option linter.unusedSimpArgs false
set_option linter.unusedVariables false
namespace Go.Proofs.YtbbnabednkopdaaGreat
open Go.RowKit
def bFp2 : Fp2 := ⟨bFp1, bFp1⟩
theorem bFp2_v : bFp2.ok ∧ bFp2.v = Crv.b := ⟨Fp2.mk_ok bFp1_v.1 bFp1_v.1, Qd.ext' bFp1_v.2 bFp1_v.2⟩
theorem onG2_inf {f0 : Fp2 → Bool} {f1 : Fp2 → Fp2 → Fp2} {f2 : Fp2 → Fp2} {p : Pg2} (h : p.inf = true) : onG2_G f0 f1 f2 p = pg2Eq p infG2 := by unfold onG2_G; rw [h]
theorem onG2_aff {f0 : Fp2 → Bool} {f1 : Fp2 → Fp2 → Fp2} {f2 : Fp2 → Fp2} {p : Pg2} (h : p.inf = false) : onG2_G f0 f1 f2 p = (f0 p.x && f0 p.y && fp2Eq (f1 p.y p.y) (f2 p.x)) := by
  unfold onG2_G
  rw [h]
  cases f0 p.x <;> cases f0 p.y <;> rfl
theorem liftG2_inf {f0 : Fp2 → Fp2} {p : Pg2} (h : p.inf = true) : liftG2_G f0 p = zeroFp6 := by unfold liftG2_G; rw [h]
theorem liftG2_aff {f0 : Fp2 → Fp2} {p : Pg2} (h : p.inf = false) : liftG2_G f0 p = ⟨f0 p.x, f0 p.y, f0 oneFp2⟩ := by unfold liftG2_G; rw [h]
theorem negG2_inf {f0 : Fp2 → Fp2} {p : Pg2} (h : p.inf = true) : negG2_G f0 p = p := by unfold negG2_G; rw [h]
theorem negG2_aff {f0 : Fp2 → Fp2} {p : Pg2} (h : p.inf = false) : negG2_G f0 p = ⟨p.x, f0 p.y, false⟩ := by unfold negG2_G; rw [h]
theorem zeroG2_eq (a : Fp2) : zeroG2 a = fp2Eq a zeroFp2 := by unfold zeroG2 zeroG2_G; rfl
def Pg2.pt (p : Pg2) : Pt V2 := match p.inf with
  | true => .inf
  | false => .aff p.x.v p.y.v
def Pg2.ok (p : Pg2) : Prop := p = infG2 ∨ (p.inf = false ∧ p.x.ok ∧ p.y.ok)
def Pg2.good (p : Pg2) : Prop := p.ok ∧ p.pt.on
theorem pt2_inf {p : Pg2} (h : p.inf = true) : p.pt = .inf := by unfold Pg2.pt; rw [h]
theorem pt2_aff {p : Pg2} (h : p.inf = false) : p.pt = .aff p.x.v p.y.v := by unfold Pg2.pt; rw [h]
theorem good_inf2 : infG2.good := ⟨.inl rfl, trivial⟩
theorem ok_inf2 {p : Pg2} (h : p.ok) (hi : p.inf = true) : p = infG2 := by
  rcases h with h | ⟨h, _⟩
  · exact h
  · rw [hi] at h; cases h
theorem ok_aff2 {p : Pg2} (h : p.ok) (hi : p.inf = false) : p.x.ok ∧ p.y.ok := by
  rcases h with h | ⟨_, h⟩
  · rw [h] at hi; cases hi
  · exact h
theorem good2_mk {x y : Fp2} {u v : V2} (hx : x.ok) (hy : y.ok) (ex : x.v = u) (ey : y.v = v) (h : (Pt.aff u v).on) : (⟨x, y, false⟩ : Pg2).good ∧ (⟨x, y, false⟩ : Pg2).pt = .aff u v := by
  subst ex ey
  exact ⟨⟨.inr ⟨rfl, hx, hy⟩, h⟩, rfl⟩
def m2 (a : Fp2) : V2 := ri2 * a.v
theorem m2_add {a b : Fp2} (ha : a.ok) (hb : b.ok) : m2 (addF2 a b) = m2 a + m2 b := by unfold m2; rw [v_add2 ha hb]; exact CR.dist _ _ _
theorem m2_sub {a b : Fp2} (ha : a.ok) (hb : b.ok) : m2 (subF2 a b) = m2 a - m2 b := by unfold m2; rw [v_sub2 ha hb]; grind
theorem m2_half {a b : Fp2} (ha : a.ok) (hb : b.ok) : m2 (halfF2 a b) = m2 a * m2 b := by unfold m2; rw [v_half2 ha hb]; grind
theorem m2_whole {a : Fp2} (ha : a.ok) : m2 (wholeF2 a) = a.v := by
  unfold m2
  rw [v_whole2 ha]
  have := rv_ri2
  grind
theorem ri_ne2 : ri2 ≠ 0 := fun e => one_ne' (K := V2) (by rw [← rv_ri2, e]; exact CR.mul_zero _)
theorem m2_zero {a : Fp2} (ha : a.ok) : zeroG2 a = true ↔ m2 a = 0 := by
  rw [zeroG2_eq, fp2Eq_v ha zero_ok2, v_zero2]
  unfold m2
  constructor
  · intro h; rw [h]; exact CR.mul_zero _
  · intro h; exact (mul_eq_zero' h).resolve_left ri_ne2
theorem m2_nonzero {a : Fp2} (ha : a.ok) : zeroG2 a = false ↔ m2 a ≠ 0 := by rw [← Bool.not_eq_true, m2_zero ha]
def rel2 (s : Fp6) (p : Pt V2) : Prop := (s.c0.ok ∧ s.c1.ok ∧ s.c2.ok) ∧ Jc (m2 s.c0) (m2 s.c1) (m2 s.c2) p
theorem rel2_mk {x y z : Fp2} {p : Pt V2} (hx : x.ok) (hy : y.ok) (hz : z.ok) (h : Jc (m2 x) (m2 y) (m2 z) p) : rel2 ⟨x, y, z⟩ p := ⟨⟨hx, hy, hz⟩, h⟩
theorem rel2_inf : rel2 zeroFp6 .inf := ⟨⟨zero_ok2, zero_ok2, zero_ok2⟩, by
  show m2 zeroFp2 = 0
  unfold m2
  rw [v_zero2]
  exact CR.mul_zero _⟩
theorem lift2_rel {p : Pg2} (h : p.good) : rel2 (liftG2 p) p.pt := by
  unfold liftG2
  cases hi : p.inf with
  | true => rw [liftG2_inf hi, pt2_inf hi]; exact rel2_inf
  | false =>
    obtain ⟨hx, hy⟩ := ok_aff2 h.1 hi
    rw [liftG2_aff hi, pt2_aff hi]
    refine rel2_mk (whole_ok2 hx) (whole_ok2 hy) (whole_ok2 one_ok2) ?_
    rw [m2_whole hx, m2_whole hy, m2_whole one_ok2, v_one2]
    exact ⟨one_ne', by grind, by grind⟩
theorem jx_of2 (x y : V2) : ((x * x + x * x) + x * x) * ((x * x + x * x) + x * x) - ((x * (y * y) + x * (y * y) + (x * (y * y) + x * (y * y))) + (x * (y * y) + x * (y * y) + (x * (y * y) + x * (y * y)))) = jx x y := by unfold jx; grind
theorem jy_of2 (x y : V2) : ((x * x + x * x) + x * x) * ((x * (y * y) + x * (y * y) + (x * (y * y) + x * (y * y))) - jx x y) - ((y * y * (y * y) + y * y * (y * y) + (y * y * (y * y) + y * y * (y * y))) + (y * y * (y * y) + y * y * (y * y) + (y * y * (y * y) + y * y * (y * y)))) = jy x y := by unfold jy; generalize jx x y = k; grind
theorem jz_of2 (y z : V2) : y * z + y * z = jz y z := by unfold jz; grind
theorem twice2_rel {s : Fp6} {p : Pt V2} (hp : p.on) (h : rel2 s p) : rel2 (twiceG2 s) (p.add p) := by
  obtain ⟨⟨hx, hy, hz⟩, hj⟩ := h
  have ha := half_ok2 hx hx
  have hb := half_ok2 hy hy
  have hc := half_ok2 hb hb
  have hd := half_ok2 hx hb
  have hd2 := add_ok2 hd hd
  have hd4 := add_ok2 hd2 hd2
  have he := add_ok2 (add_ok2 ha ha) ha
  have hee := half_ok2 he he
  have hd8 := add_ok2 hd4 hd4
  have hX := sub_ok2 hee hd8
  have hc2 := add_ok2 hc hc
  have hc4 := add_ok2 hc2 hc2
  have hc8 := add_ok2 hc4 hc4
  have hyz := half_ok2 hy hz
  have hs := sub_ok2 hd4 hX
  have hes := half_ok2 he hs
  have hj' := twice_all hp hj
  have e1 := m2_sub hee hd8
  rw [m2_half he he, m2_add hd4 hd4, m2_add hd2 hd2, m2_add hd hd, m2_half hx hb, m2_half hy hy, m2_add (add_ok2 ha ha) ha, m2_add ha ha, m2_half hx hx, jx_of2] at e1
  have e2 := m2_sub hes hc8
  rw [m2_half he hs, m2_sub hd4 hX, e1, m2_add hc4 hc4, m2_add hc2 hc2, m2_add hc hc, m2_half hb hb, m2_add hd2 hd2, m2_add hd hd, m2_half hx hb, m2_half hy hy, m2_add (add_ok2 ha ha) ha, m2_add ha ha, m2_half hx hx, jy_of2] at e2
  have e3 := m2_add hyz hyz
  rw [m2_half hy hz, jz_of2] at e3
  unfold twiceG2 twiceG2_G
  refine rel2_mk hX (sub_ok2 hes hc8) (add_ok2 hyz hyz) ?_
  rw [e1, e2, e3]
  exact hj'
section
variable {f0 : Fp2 → Bool} {f1 f2 f4 : Fp2 → Fp2 → Fp2} {f3 : Fp6 → Fp6} {s t : Fp6}
theorem plusG2_l (h : f0 s.c2 = true) : plusG2_G f0 f1 f2 f3 f4 s t = t := by unfold plusG2_G; rw [h]
theorem plusG2_r (h : f0 s.c2 = false) (h2 : f0 t.c2 = true) : plusG2_G f0 f1 f2 f3 f4 s t = s := by unfold plusG2_G; rw [h, h2]
theorem plusG2_tw (h : f0 s.c2 = false) (h2 : f0 t.c2 = false) (h3 : f0 (f2 (f1 t.c0 (f1 s.c2 s.c2)) (f1 s.c0 (f1 t.c2 t.c2))) = true) (h4 : f0 (f2 (f1 t.c1 (f1 (f1 s.c2 s.c2) s.c2)) (f1 s.c1 (f1 (f1 t.c2 t.c2) t.c2))) = true) : plusG2_G f0 f1 f2 f3 f4 s t = f3 s := by
  unfold plusG2_G
  rw [h, h2, h3, h4]
theorem plusG2_no (h : f0 s.c2 = false) (h2 : f0 t.c2 = false) (h3 : f0 (f2 (f1 t.c0 (f1 s.c2 s.c2)) (f1 s.c0 (f1 t.c2 t.c2))) = true) (h4 : f0 (f2 (f1 t.c1 (f1 (f1 s.c2 s.c2) s.c2)) (f1 s.c1 (f1 (f1 t.c2 t.c2) t.c2))) = false) : plusG2_G f0 f1 f2 f3 f4 s t = zeroFp6 := by
  unfold plusG2_G
  rw [h, h2, h3, h4]
theorem plusG2_all (h : f0 s.c2 = false) (h2 : f0 t.c2 = false) (h3 : f0 (f2 (f1 t.c0 (f1 s.c2 s.c2)) (f1 s.c0 (f1 t.c2 t.c2))) = false) : plusG2_G f0 f1 f2 f3 f4 s t = ⟨(f2 (f2 (f1 (f2 (f1 t.c1 (f1 (f1 s.c2 s.c2) s.c2)) (f1 s.c1 (f1 (f1 t.c2 t.c2) t.c2))) (f2 (f1 t.c1 (f1 (f1 s.c2 s.c2) s.c2)) (f1 s.c1 (f1 (f1 t.c2 t.c2) t.c2)))) (f1 (f1 (f2 (f1 t.c0 (f1 s.c2 s.c2)) (f1 s.c0 (f1 t.c2 t.c2))) (f2 (f1 t.c0 (f1 s.c2 s.c2)) (f1 s.c0 (f1 t.c2 t.c2)))) (f2 (f1 t.c0 (f1 s.c2 s.c2)) (f1 s.c0 (f1 t.c2 t.c2))))) (f4 (f1 (f1 s.c0 (f1 t.c2 t.c2)) (f1 (f2 (f1 t.c0 (f1 s.c2 s.c2)) (f1 s.c0 (f1 t.c2 t.c2))) (f2 (f1 t.c0 (f1 s.c2 s.c2)) (f1 s.c0 (f1 t.c2 t.c2))))) (f1 (f1 s.c0 (f1 t.c2 t.c2)) (f1 (f2 (f1 t.c0 (f1 s.c2 s.c2)) (f1 s.c0 (f1 t.c2 t.c2))) (f2 (f1 t.c0 (f1 s.c2 s.c2)) (f1 s.c0 (f1 t.c2 t.c2))))))), (f2 (f1 (f2 (f1 t.c1 (f1 (f1 s.c2 s.c2) s.c2)) (f1 s.c1 (f1 (f1 t.c2 t.c2) t.c2))) (f2 (f1 (f1 s.c0 (f1 t.c2 t.c2)) (f1 (f2 (f1 t.c0 (f1 s.c2 s.c2)) (f1 s.c0 (f1 t.c2 t.c2))) (f2 (f1 t.c0 (f1 s.c2 s.c2)) (f1 s.c0 (f1 t.c2 t.c2))))) (f2 (f2 (f1 (f2 (f1 t.c1 (f1 (f1 s.c2 s.c2) s.c2)) (f1 s.c1 (f1 (f1 t.c2 t.c2) t.c2))) (f2 (f1 t.c1 (f1 (f1 s.c2 s.c2) s.c2)) (f1 s.c1 (f1 (f1 t.c2 t.c2) t.c2)))) (f1 (f1 (f2 (f1 t.c0 (f1 s.c2 s.c2)) (f1 s.c0 (f1 t.c2 t.c2))) (f2 (f1 t.c0 (f1 s.c2 s.c2)) (f1 s.c0 (f1 t.c2 t.c2)))) (f2 (f1 t.c0 (f1 s.c2 s.c2)) (f1 s.c0 (f1 t.c2 t.c2))))) (f4 (f1 (f1 s.c0 (f1 t.c2 t.c2)) (f1 (f2 (f1 t.c0 (f1 s.c2 s.c2)) (f1 s.c0 (f1 t.c2 t.c2))) (f2 (f1 t.c0 (f1 s.c2 s.c2)) (f1 s.c0 (f1 t.c2 t.c2))))) (f1 (f1 s.c0 (f1 t.c2 t.c2)) (f1 (f2 (f1 t.c0 (f1 s.c2 s.c2)) (f1 s.c0 (f1 t.c2 t.c2))) (f2 (f1 t.c0 (f1 s.c2 s.c2)) (f1 s.c0 (f1 t.c2 t.c2))))))))) (f1 (f1 s.c1 (f1 (f1 t.c2 t.c2) t.c2)) (f1 (f1 (f2 (f1 t.c0 (f1 s.c2 s.c2)) (f1 s.c0 (f1 t.c2 t.c2))) (f2 (f1 t.c0 (f1 s.c2 s.c2)) (f1 s.c0 (f1 t.c2 t.c2)))) (f2 (f1 t.c0 (f1 s.c2 s.c2)) (f1 s.c0 (f1 t.c2 t.c2)))))), (f1 (f1 s.c2 t.c2) (f2 (f1 t.c0 (f1 s.c2 s.c2)) (f1 s.c0 (f1 t.c2 t.c2))))⟩ := by
  unfold plusG2_G
  rw [h, h2, h3]
end
theorem px_of2 (u h r : V2) : r * r - h * h * h - (u * (h * h) + u * (h * h)) = r * r - h * h * h - 2 * (u * (h * h)) := by grind
theorem plus2_rel {s t : Fp6} {p q : Pt V2} (hp : p.on) (hq : q.on) (hs : rel2 s p) (ht : rel2 t q) : rel2 (plusG2 s t) (p.add q) := by
  have hs0 := hs
  have ht0 := ht
  obtain ⟨⟨hx, hy, hz⟩, hj⟩ := hs
  obtain ⟨⟨kx, ky, kz⟩, kj⟩ := ht
  unfold plusG2
  by_cases z1 : m2 s.c2 = 0
  · rw [plusG2_l ((m2_zero hz).2 z1), hj.inf_of z1, inf_add]
    exact ht0
  by_cases z2 : m2 t.c2 = 0
  · rw [plusG2_r ((m2_nonzero hz).2 z1) ((m2_zero kz).2 z2), kj.inf_of z2, add_inf]
    exact hs0
  have n1 := (m2_nonzero hz).2 z1
  have n2 := (m2_nonzero kz).2 z2
  have zz := half_ok2 hz hz
  have ww := half_ok2 kz kz
  have zzz := half_ok2 zz hz
  have www := half_ok2 ww kz
  have hu := half_ok2 hx ww
  have hv := half_ok2 kx zz
  have ha := half_ok2 hy www
  have hb := half_ok2 ky zzz
  have hh := sub_ok2 hv hu
  have hr := sub_ok2 hb ha
  have eh : m2 (subF2 (halfF2 t.c0 (halfF2 s.c2 s.c2)) (halfF2 s.c0 (halfF2 t.c2 t.c2))) = m2 t.c0 * (m2 s.c2 * m2 s.c2) - m2 s.c0 * (m2 t.c2 * m2 t.c2) := by
    rw [m2_sub hv hu, m2_half kx zz, m2_half hx ww, m2_half hz hz, m2_half kz kz]
  have er : m2 (subF2 (halfF2 t.c1 (halfF2 (halfF2 s.c2 s.c2) s.c2)) (halfF2 s.c1 (halfF2 (halfF2 t.c2 t.c2) t.c2))) = m2 t.c1 * (m2 s.c2 * m2 s.c2 * m2 s.c2) - m2 s.c1 * (m2 t.c2 * m2 t.c2 * m2 t.c2) := by
    rw [m2_sub hb ha, m2_half ky zzz, m2_half hy www, m2_half zz hz, m2_half ww kz, m2_half hz hz, m2_half kz kz]
  by_cases h0 : m2 t.c0 * (m2 s.c2 * m2 s.c2) - m2 s.c0 * (m2 t.c2 * m2 t.c2) = 0
  · obtain ⟨c1, c2⟩ := plus_same hp hq hj kj z1 z2 h0
    have n3 := (m2_zero hh).2 (by rw [eh]; exact h0)
    by_cases r0 : m2 t.c1 * (m2 s.c2 * m2 s.c2 * m2 s.c2) - m2 s.c1 * (m2 t.c2 * m2 t.c2 * m2 t.c2) = 0
    · rw [plusG2_tw n1 n2 n3 ((m2_zero hr).2 (by rw [er]; exact r0)), c1 r0]
      exact twice2_rel hp hs0
    · rw [plusG2_no n1 n2 n3 ((m2_nonzero hr).2 (by rw [er]; exact r0)), c2 r0]
      exact rel2_inf
  · rw [plusG2_all n1 n2 ((m2_nonzero hh).2 (by rw [eh]; exact h0))]
    have key := plus_all hp hq hj kj z1 z2 h0
    have h2 := half_ok2 hh hh
    have h3 := half_ok2 h2 hh
    have hw := half_ok2 hu h2
    have hrr := half_ok2 hr hr
    have hw2 := add_ok2 hw hw
    have hrh := sub_ok2 hrr h3
    have hX := sub_ok2 hrh hw2
    have hwx := sub_ok2 hw hX
    have hrw := half_ok2 hr hwx
    have hah := half_ok2 ha h3
    have hst := half_ok2 hz kz
    have eu : m2 (halfF2 s.c0 (halfF2 t.c2 t.c2)) = m2 s.c0 * (m2 t.c2 * m2 t.c2) := by rw [m2_half hx ww, m2_half kz kz]
    have ea : m2 (halfF2 s.c1 (halfF2 (halfF2 t.c2 t.c2) t.c2)) = m2 s.c1 * (m2 t.c2 * m2 t.c2 * m2 t.c2) := by rw [m2_half hy www, m2_half ww kz, m2_half kz kz]
    have e1 := m2_sub hrh hw2
    rw [m2_sub hrr h3, m2_half hr hr, er, m2_half h2 hh, m2_half hh hh, eh, m2_add hw hw, m2_half hu h2, eu, m2_half hh hh, eh, px_of2] at e1
    have e1' : _ = px (m2 s.c0) (m2 s.c1) (m2 s.c2) (m2 t.c0) (m2 t.c1) (m2 t.c2) := e1
    have e2 := m2_sub hrw hah
    rw [m2_half hr hwx, m2_sub hw hX, e1', m2_half hu h2, eu, m2_half hh hh, eh, m2_half ha h3, ea, m2_half h2 hh, m2_half hh hh, eh, er] at e2
    have e3 := m2_half hst hh
    rw [m2_half hz kz, eh] at e3
    refine rel2_mk hX (sub_ok2 hrw hah) (half_ok2 hst hh) ?_
    rw [e1', e2, e3]
    exact key
theorem neg2_pt {a : Pg2} (ha : a.good) : (negG2 a).good ∧ (negG2 a).pt = a.pt.neg := by
  unfold negG2
  cases hi : a.inf with
  | true =>
    rw [negG2_inf hi, pt2_inf hi]
    exact ⟨ha, rfl⟩
  | false =>
    obtain ⟨hx, hy⟩ := ok_aff2 ha.1 hi
    have ho := neg_on ha.2
    rw [pt2_aff hi] at ho ⊢
    rw [negG2_aff hi]
    exact good2_mk hx (neg_ok2 hy) rfl (v_neg2 hy) ho
theorem rhs2_G_eq (f0 f1 : Fp2 → Fp2 → Fp2) (x : Fp2) : rhsG2_G f0 f1 x = f0 (f1 (f1 x x) x) bFp2 := rfl
theorem rhs2_v {x : Fp2} (hx : x.ok) : (rhsG2 x).ok ∧ (rhsG2 x).v = x.v * x.v * x.v + Crv.b := by
  have hb : bFp2.ok ∧ bFp2.v = Crv.b := bFp2_v
  have h2 := mul_ok2 hx hx
  have h3 := mul_ok2 h2 hx
  unfold rhsG2
  rw [rhs2_G_eq]
  refine ⟨add_ok2 h3 hb.1, ?_⟩
  rw [v_add2 h3 hb.1, v_mul2 h2 hx, v_mul2 hx hx, hb.2]
theorem on2_iff (p : Pg2) : onG2 p = true ↔ p.good := by
  unfold onG2
  cases hi : p.inf with
  | true =>
    rw [onG2_inf hi, pg2Eq_iff]
    constructor
    · intro h; rw [h]; exact good_inf2
    · intro h; exact ok_inf2 h.1 hi
  | false =>
    rw [onG2_aff hi, Bool.and_eq_true, Bool.and_eq_true, may2_iff, may2_iff]
    constructor
    · rintro ⟨⟨hx, hy⟩, h⟩
      obtain ⟨r1, r2⟩ := rhs2_v hx
      rw [fp2Eq_v (mul_ok2 hy hy) r1, v_mul2 hy hy, r2] at h
      exact ⟨.inr ⟨hi, hx, hy⟩, by rw [pt2_aff hi]; exact h⟩
    · intro h
      obtain ⟨hx, hy⟩ := ok_aff2 h.1 hi
      obtain ⟨r1, r2⟩ := rhs2_v hx
      refine ⟨⟨hx, hy⟩, ?_⟩
      rw [fp2Eq_v (mul_ok2 hy hy) r1, v_mul2 hy hy, r2]
      have := h.2
      rw [pt2_aff hi] at this
      exact this
end Go.Proofs.YtbbnabednkopdaaGreat

set_option linter.unusedSimpArgs false
set_option linter.unusedVariables false
namespace Go.Proofs.YtbbnabednkopdaaGreat
def qN : Nat := 0x73eda753299d7d483339d80809a1d80553bda402fffe5bfeffffffff00000001
def r4N : Nat := 0x10000000000000000000000000000000000000000000000000000000000000000
def Fr.nat (a : Fr) : Nat := a.l0.toNat + W64 * (a.l1.toNat + W64 * (a.l2.toNat + W64 * (a.l3.toNat)))
theorem Fr.nat_lt (a : Fr) : a.nat < r4N := by
  have h0 := a.l0.toNat_lt
  have h1 := a.l1.toNat_lt
  have h2 := a.l2.toNat_lt
  have h3 := a.l3.toNat_lt
  unfold Fr.nat r4N W64
  omega
theorem Fr.nat_inj {a b : Fr} (h : a.nat = b.nat) : a = b := by
  have h0 := a.l0.toNat_lt
  have h1 := a.l1.toNat_lt
  have h2 := a.l2.toNat_lt
  have h3 := a.l3.toNat_lt
  have k0 := b.l0.toNat_lt
  have k1 := b.l1.toNat_lt
  have k2 := b.l2.toNat_lt
  have k3 := b.l3.toNat_lt
  unfold Fr.nat W64 at h
  have e0 : a.l0 = b.l0 := UInt64.toNat.inj (by omega)
  have e1 : a.l1 = b.l1 := UInt64.toNat.inj (by omega)
  have e2 : a.l2 = b.l2 := UInt64.toNat.inj (by omega)
  have e3 : a.l3 = b.l3 := UInt64.toNat.inj (by omega)
  cases a; cases b
  simp only [] at e0 e1 e2 e3
  subst e0 e1 e2 e3
  rfl
theorem rLimbs_nat : rLimbs.nat = qN := by decide +kernel
theorem below4F_nat (a m : Fr) : below4F a m = decide (a.nat < m.nat) := by
  have h0 := a.l0.toNat_lt
  have k0 := m.l0.toNat_lt
  have h1 := a.l1.toNat_lt
  have k1 := m.l1.toNat_lt
  have h2 := a.l2.toNat_lt
  have k2 := m.l2.toNat_lt
  have same : ∀ {x y : UInt64}, (x != y) = false → x.toNat = y.toNat := fun h => by
    simp only [bne_eq_false_iff_eq] at h
    rw [h]
  unfold below4F
  cases e3 : a.l3 != m.l3 with
  | true =>
    have := u64_ne.1 e3
    refine decide_eq_decide.2 ?_
    rw [UInt64.lt_iff_toNat_lt]
    unfold Fr.nat W64
    omega
  | false =>
    have e3 := same e3
    simp only []
    cases e2 : a.l2 != m.l2 with
    | true =>
      have := u64_ne.1 e2
      refine decide_eq_decide.2 ?_
      rw [UInt64.lt_iff_toNat_lt]
      unfold Fr.nat W64
      omega
    | false =>
      have e2 := same e2
      simp only []
      cases e1 : a.l1 != m.l1 with
      | true =>
        have := u64_ne.1 e1
        refine decide_eq_decide.2 ?_
        rw [UInt64.lt_iff_toNat_lt]
        unfold Fr.nat W64
        omega
      | false =>
        have e1 := same e1
        simp only []
        cases e0 : a.l0 != m.l0 with
        | true =>
          have := u64_ne.1 e0
          refine decide_eq_decide.2 ?_
          rw [UInt64.lt_iff_toNat_lt]
          unfold Fr.nat W64
          omega
        | false =>
          have e0 := same e0
          refine (decide_eq_false ?_).symm
          unfold Fr.nat W64
          omega
theorem mayRF_nat (a : Fr) : mayRF a = decide (a.nat < qN) := by
  rw [show mayRF a = below4F a rLimbs from rfl, below4F_nat, rLimbs_nat]
theorem zeroFr_nat : zeroFr.nat = 0 := by decide +kernel
def L5.nat (t : L5) : Nat := t.t0.toNat + W64 * (t.t1.toNat + W64 * (t.t2.toNat + W64 * (t.t3.toNat + W64 * (t.t4.toNat))))
theorem L5.nat_low (t : L5) : t.nat = t.low.nat + r4N * t.t4.toNat := by
  unfold L5.nat L5.low Fr.nat r4N W64
  simp only []
  omega
end Go.Proofs.YtbbnabednkopdaaGreat

set_option linter.unusedSimpArgs false
set_option linter.unusedVariables false
namespace Go.Proofs.YtbbnabednkopdaaGreat
open Go.RowKit
theorem add5_G {K : Type} [Fld K] [Crv K] {f0 : Fp2 → Fp2 → Bool → Fp2} {f1 f2 : Fp2 → Fp2 → Fp2} {f3 : Fp2 → Bool → Fp2} {b : K} {small : Bool} (ok : Fp2 → Prop) (v : Fp2 → K)
    (hA : ∀ {x y}, ok x → ok y → ok (f1 x y) ∧ v (f1 x y) = v x + v y) (hS : ∀ {x y}, ok x → ok y → ok (f2 x y) ∧ v (f2 x y) = v x - v y) (hM : ∀ {x y}, ok x → ok y → ok (f0 x y small) ∧ v (f0 x y small) = v x * v y) (hB : ∀ {x}, ok x → ok (f3 x small) ∧ v (f3 x small) = 3 * b * v x)
    {s t : Fp6} (hs : ok s.c0 ∧ ok s.c1 ∧ ok s.c2) (ht : ok t.c0 ∧ ok t.c1 ∧ ok t.c2) :
    (ok (addS5_G f0 f1 f2 f3 s t small).c0 ∧ ok (addS5_G f0 f1 f2 f3 s t small).c1 ∧ ok (addS5_G f0 f1 f2 f3 s t small).c2) ∧
    v (addS5_G f0 f1 f2 f3 s t small).c0 = rx b (v s.c0) (v s.c1) (v s.c2) (v t.c0) (v t.c1) (v t.c2) ∧ v (addS5_G f0 f1 f2 f3 s t small).c1 = ry b (v s.c0) (v s.c1) (v s.c2) (v t.c0) (v t.c1) (v t.c2) ∧ v (addS5_G f0 f1 f2 f3 s t small).c2 = rz b (v s.c0) (v s.c1) (v s.c2) (v t.c0) (v t.c1) (v t.c2) := by
  obtain ⟨s0, s1, s2⟩ := hs
  obtain ⟨t0, t1, t2⟩ := ht
  have a0 := hM s0 t0
  have a1 := hM s1 t1
  have a2 := hM s2 t2
  have b3 := hM (hA s0 s1).1 (hA t0 t1).1
  have b4 := hM (hA s1 s2).1 (hA t1 t2).1
  have b5 := hM (hA s0 s2).1 (hA t0 t2).1
  have c3 := hS (hS b3.1 a0.1).1 a1.1
  have c4 := hS (hS b4.1 a1.1).1 a2.1
  have c5 := hS (hS b5.1 a0.1).1 a2.1
  have d0 := hA (hA a0.1 a0.1).1 a0.1
  have d2 := hB a2.1
  have dz := hA a1.1 d2.1
  have d1 := hS a1.1 d2.1
  have dy := hB c5.1
  have x1 := hM c3.1 d1.1
  have x2 := hM c4.1 dy.1
  have y1 := hM d1.1 dz.1
  have y2 := hM dy.1 d0.1
  have z1 := hM dz.1 c4.1
  have z2 := hM d0.1 c3.1
  have X := hS x1.1 x2.1
  have Y := hA y1.1 y2.1
  have Z := hA z1.1 z2.1
  have e3 := c3.2
  rw [(hS b3.1 a0.1).2, b3.2, a0.2, a1.2, (hA s0 s1).2, (hA t0 t1).2] at e3
  have e4 := c4.2
  rw [(hS b4.1 a1.1).2, b4.2, a1.2, a2.2, (hA s1 s2).2, (hA t1 t2).2] at e4
  have e5 := c5.2
  rw [(hS b5.1 a0.1).2, b5.2, a0.2, a2.2, (hA s0 s2).2, (hA t0 t2).2] at e5
  have eX := X.2
  rw [x1.2, x2.2, e3, e4, d1.2, dy.2, e5, d2.2, a1.2, a2.2] at eX
  have eY := Y.2
  rw [y1.2, y2.2, d1.2, dz.2, dy.2, e5, d0.2, (hA a0.1 a0.1).2, d2.2, a0.2, a1.2, a2.2] at eY
  have eZ := Z.2
  rw [z1.2, z2.2, dz.2, e4, d0.2, (hA a0.1 a0.1).2, d2.2, e3, a0.2, a1.2, a2.2] at eZ
  refine ⟨⟨X.1, Y.1, Z.1⟩, eX.trans ?_, eY.trans ?_, eZ.trans ?_⟩
  · unfold rx; clear eX eY eZ e3 e4 e5; grind
  · unfold ry; clear eX eY eZ e3 e4 e5; grind
  · unfold rz; clear eX eY eZ e3 e4 e5; grind
def lowOk (x : Fp2) : Prop := x.c0.ok ∧ x.c1 = zeroFp
def lowV (x : Fp2) : V1 := x.c0.v
theorem zero_zero {f : Fp → Fp → Fp} (h : f zeroFp zeroFp = zeroFp) {x y : Fp2} (hx : x.c1 = zeroFp) (hy : y.c1 = zeroFp) : f x.c1 y.c1 = zeroFp := by rw [hx, hy, h]
theorem addF_zz : addF zeroFp zeroFp = zeroFp := Fp.v_inj (add_ok' zero_ok' zero_ok') zero_ok' (by rw [v_add zero_ok' zero_ok', v_zero]; exact CR.add_zero _)
theorem subF_zz : subF zeroFp zeroFp = zeroFp := Fp.v_inj (sub_ok' zero_ok' zero_ok') zero_ok' (by rw [v_sub zero_ok' zero_ok', v_zero]; exact sub_of_eq rfl)
theorem lowMk2 {x y : Fp} {z : V1} (h : x.ok) (hy : y = zeroFp) (hv : x.v = z) : lowOk ⟨x, y⟩ ∧ lowV ⟨x, y⟩ = z := ⟨⟨h, hy⟩, hv⟩
theorem low_add {x y : Fp2} (hx : lowOk x) (hy : lowOk y) : lowOk (add2R x y) ∧ lowV (add2R x y) = lowV x + lowV y := by
  rw [add2R_eq, addF2_eq]
  exact lowMk2 (add_ok' hx.1 hy.1) (zero_zero addF_zz hx.2 hy.2) (v_add hx.1 hy.1)
theorem low_sub {x y : Fp2} (hx : lowOk x) (hy : lowOk y) : lowOk (sub2R x y) ∧ lowV (sub2R x y) = lowV x - lowV y := by
  rw [sub2R_eq, subF2_eq]
  exact lowMk2 (sub_ok' hx.1 hy.1) (zero_zero subF_zz hx.2 hy.2) (v_sub hx.1 hy.1)
theorem mulS_true (f0 : Fp → Fp → Fp) (f1 : Fp2 → Fp2 → Fp2) (x y : Fp2) : mulS_G f0 f1 x y true = ⟨f0 x.c0 y.c0, zeroFp⟩ := rfl
theorem mulS_false (f0 : Fp → Fp → Fp) (f1 : Fp2 → Fp2 → Fp2) (x y : Fp2) : mulS_G f0 f1 x y false = f1 x y := rfl
theorem lowMk {x : Fp} (h : x.ok) : lowOk ⟨x, zeroFp⟩ ∧ lowV ⟨x, zeroFp⟩ = x.v := ⟨⟨h, rfl⟩, rfl⟩
theorem low_mul {x y : Fp2} (hx : lowOk x) (hy : lowOk y) : lowOk (mulS x y true) ∧ lowV (mulS x y true) = lowV x * lowV y := by
  unfold mulS
  rw [mulS_true, mulPF_eq hx.1 hy.1, ← show (mulF x.c0 y.c0).v = lowV x * lowV y from v_mul hx.1 hy.1]
  exact lowMk (mul_ok' hx.1)
theorem b3_true (f0 f1 : Fp2 → Fp2 → Fp2) (f2 x : Fp2) : b3R_G f0 f1 f2 x true = f0 (f0 (f0 (f0 x x) (f0 x x)) (f0 (f0 x x) (f0 x x))) (f0 (f0 x x) (f0 x x)) := rfl
theorem b3_false (f0 f1 : Fp2 → Fp2 → Fp2) (f2 x : Fp2) : b3R_G f0 f1 f2 x false = f1 (f0 (f0 (f0 (f0 x x) (f0 x x)) (f0 (f0 x x) (f0 x x))) (f0 (f0 x x) (f0 x x))) f2 := rfl
theorem twelve_v {K : Type} [CR K] (x : K) : x + x + (x + x) + (x + x + (x + x)) + (x + x + (x + x)) = 3 * 4 * x := by grind
theorem low_b3 {x : Fp2} (hx : lowOk x) : lowOk (b3R x true) ∧ lowV (b3R x true) = 3 * Crv.b * lowV x := by
  unfold b3R
  rw [b3_true]
  have h2 := low_add hx hx
  have h4 := low_add h2.1 h2.1
  have h8 := low_add h4.1 h4.1
  have h12 := low_add h8.1 h4.1
  refine ⟨h12.1, ?_⟩
  rw [h12.2, h8.2, h4.2, h2.2]
  exact twelve_v _
def low3 (s : Fp6) : Prop := lowOk s.c0 ∧ lowOk s.c1 ∧ lowOk s.c2
def relR1 (s : Fp6) (p : Pt V1) : Prop := low3 s ∧ Pj (lowV s.c0) (lowV s.c1) (lowV s.c2) p
theorem add5_rel1 {s t : Fp6} {p q : Pt V1} (hp : p.on) (hq : q.on) (hs : relR1 s p) (ht : relR1 t q) : relR1 (addS5 s t true) (p.add q) := by
  unfold addS5
  obtain ⟨h1, h2, h3, h4⟩ := add5_G (b := (Crv.b : V1)) lowOk lowV low_add low_sub low_mul low_b3 hs.1 ht.1
  refine ⟨h1, ?_⟩
  rw [h2, h3, h4]
  exact sum_all hp hq hs.2 ht.2
theorem relR1_mk {a b c : Fp2} {p : Pt V1} (ha : lowOk a) (hb : lowOk b) (hc : lowOk c) (h : Pj (lowV a) (lowV b) (lowV c) p) : relR1 ⟨a, b, c⟩ p := ⟨⟨ha, hb, hc⟩, h⟩
theorem none5_eq : none5 = ⟨zeroFp2, oneFp2, zeroFp2⟩ := by
  unfold none5
  rw [one2R_eq]
  rfl
theorem zero_low : lowOk zeroFp2 ∧ lowV zeroFp2 = 0 := ⟨⟨zero_ok', rfl⟩, v_zero⟩
theorem one_low : lowOk oneFp2 ∧ lowV oneFp2 = 1 := ⟨⟨one_ok', rfl⟩, v_one⟩
theorem none_rel1 : relR1 none5 .inf := by
  rw [none5_eq]
  refine relR1_mk zero_low.1 one_low.1 zero_low.1 ?_
  rw [zero_low.2, one_low.2]
  exact ⟨rfl, rfl, one_ne'⟩
theorem of1_inf {f0 : Fp6} {f1 : Fp2} {a : Pg1} (h : a.inf = true) : of1R_G f0 f1 a = f0 := by unfold of1R_G; rw [h]
theorem of1_aff {f0 : Fp6} {f1 : Fp2} {a : Pg1} (h : a.inf = false) : of1R_G f0 f1 a = ⟨⟨a.x, zeroFp⟩, ⟨a.y, zeroFp⟩, f1⟩ := by unfold of1R_G; rw [h]
theorem of1_rel {a : Pg1} (ha : a.good) : relR1 (of1R a) a.pt := by
  unfold of1R
  cases hi : a.inf with
  | true => rw [of1_inf hi, pt1_inf hi]; exact none_rel1
  | false =>
    obtain ⟨hx, hy⟩ := ok_aff1 ha.1 hi
    rw [of1_aff hi, pt1_aff hi, one2R_eq]
    refine relR1_mk (lowMk hx).1 (lowMk hy).1 one_low.1 ?_
    rw [(lowMk hx).2, (lowMk hy).2, one_low.2]
    exact ⟨one_ne', (CR.mul_one _).symm, (CR.mul_one _).symm⟩
theorem to1_no {f0 : Fp → Fp × Int} {f1 : Fp → Fp → Fp} {s : Fp6} (h : (f0 s.c2.c0).2 = 7) : to1R_G f0 f1 s = infG1 := by
  unfold to1R_G
  rw [h]
  rfl
theorem to1_yes {f0 : Fp → Fp × Int} {f1 : Fp → Fp → Fp} {s : Fp6} (h : (f0 s.c2.c0).2 = 0) : to1R_G f0 f1 s = ⟨f1 s.c0.c0 (f0 s.c2.c0).1, f1 s.c1.c0 (f0 s.c2.c0).1, false⟩ := by
  unfold to1R_G
  rw [h]
  rfl
theorem pj_div {K : Type} [Fld K] {x z : K} (hz : z ≠ 0) : x * z * Fld.inv z = x := by
  have := mul_inv' hz
  grind
theorem to1_rel {s : Fp6} {p : Pt V1} (hp : p.on) (h : relR1 s p) : (to1R s).good ∧ (to1R s).pt = p := by
  obtain ⟨⟨h0, h1, h2⟩, hj⟩ := h
  obtain ⟨i1, i2⟩ := inv_v h2.1
  have ei := invPF_eq h2.1
  unfold to1R
  cases p with
  | inf =>
    rw [to1_no (by rw [ei]; exact i1 hj.2.1)]
    exact ⟨good_inf1, rfl⟩
  | aff x y =>
    obtain ⟨hz, e1, e2⟩ := hj
    obtain ⟨j1, j2, j3⟩ := i2 hz
    rw [to1_yes (by rw [ei]; exact j1), ei, mulPF_eq h0.1 j2, mulPF_eq h1.1 j2]
    refine good1_mk (mul_ok' h0.1) (mul_ok' h1.1) ?_ ?_ hp
    · rw [v_mul h0.1 j2, j3, show s.c0.c0.v = x * s.c2.c0.v from e1]
      exact pj_div hz
    · rw [v_mul h1.1 j2, j3, show s.c1.c0.v = y * s.c2.c0.v from e2]
      exact pj_div hz
theorem times_rel1 {s : Fp6} {p : Pt V1} (hp : p.on) (h : relR1 s p) (e : List UInt64) : relR1 (timesR s e true) (p.mul (valL e)) :=
  dblG_all relR1 hp (fun hq h => add5_rel1 hq hq h h) (fun hq k => add5_rel1 hq hp k h) e none_rel1
theorem big_mul {x y : Fp2} (hx : x.ok) (hy : y.ok) : (mulS x y false).ok ∧ (mulS x y false).v = x.v * y.v := by
  unfold mulS
  rw [mulS_false, mul2R_eq hx hy]
  exact ⟨mul_ok2 hx hy, v_mul2 hx hy⟩
theorem big_add {x y : Fp2} (hx : x.ok) (hy : y.ok) : (add2R x y).ok ∧ (add2R x y).v = x.v + y.v := by rw [add2R_eq]; exact ⟨add_ok2 hx hy, v_add2 hx hy⟩
theorem big_sub {x y : Fp2} (hx : x.ok) (hy : y.ok) : (sub2R x y).ok ∧ (sub2R x y).v = x.v - y.v := by rw [sub2R_eq]; exact ⟨sub_ok2 hx hy, v_sub2 hx hy⟩
theorem bb2_xi : bb2 = 4 * xi := Qd.ext'
  (by rw [V2.mul_a, xi_a, xi_b]; show (4 : V1) = 4 * 1 - 0 * 1; grind)
  (by rw [V2.mul_b, xi_a, xi_b]; show (4 : V1) = 4 * 1 + 0 * 1; grind)
theorem b3_xi (x k b : V2) (h : b = 4 * k) : 3 * 4 * x * k = 3 * b * x := by rw [h]; grind
theorem big_b3 {x : Fp2} (hx : x.ok) : (b3R x false).ok ∧ (b3R x false).v = 3 * Crv.b * x.v := by
  unfold b3R
  rw [b3_false]
  have h2 := big_add hx hx
  have h4 := big_add h2.1 h2.1
  have h8 := big_add h4.1 h4.1
  have h12 := big_add h8.1 h4.1
  rw [mul2R_eq h12.1 xi_ok2]
  refine ⟨mul_ok2 h12.1 xi_ok2, ?_⟩
  rw [v_mul2 h12.1 xi_ok2, h12.2, h8.2, h4.2, h2.2, twelve_v, v_xi2]
  exact b3_xi _ _ _ bb2_xi
def big3 (s : Fp6) : Prop := s.c0.ok ∧ s.c1.ok ∧ s.c2.ok
def relR2 (s : Fp6) (p : Pt V2) : Prop := big3 s ∧ Pj s.c0.v s.c1.v s.c2.v p
theorem add5_rel2 {s t : Fp6} {p q : Pt V2} (hp : p.on) (hq : q.on) (hs : relR2 s p) (ht : relR2 t q) : relR2 (addS5 s t false) (p.add q) := by
  unfold addS5
  obtain ⟨h1, h2, h3, h4⟩ := add5_G (b := (Crv.b : V2)) Fp2.ok Fp2.v big_add big_sub big_mul big_b3 hs.1 ht.1
  refine ⟨h1, ?_⟩
  rw [h2, h3, h4]
  exact sum_all hp hq hs.2 ht.2
theorem relR2_mk {a b c : Fp2} {p : Pt V2} (ha : a.ok) (hb : b.ok) (hc : c.ok) (h : Pj a.v b.v c.v p) : relR2 ⟨a, b, c⟩ p := ⟨⟨ha, hb, hc⟩, h⟩
theorem none_rel2 : relR2 none5 .inf := by
  rw [none5_eq]
  refine relR2_mk zero_ok2 one_ok2 zero_ok2 ?_
  rw [v_zero2, v_one2]
  exact ⟨rfl, rfl, one_ne'⟩
theorem of2_inf {f0 : Fp6} {f1 : Fp2} {a : Pg2} (h : a.inf = true) : of2R_G f0 f1 a = f0 := by unfold of2R_G; rw [h]
theorem of2_aff {f0 : Fp6} {f1 : Fp2} {a : Pg2} (h : a.inf = false) : of2R_G f0 f1 a = ⟨a.x, a.y, f1⟩ := by unfold of2R_G; rw [h]
theorem of2_rel {a : Pg2} (ha : a.good) : relR2 (of2R a) a.pt := by
  unfold of2R
  cases hi : a.inf with
  | true => rw [of2_inf hi, pt2_inf hi]; exact none_rel2
  | false =>
    obtain ⟨hx, hy⟩ := ok_aff2 ha.1 hi
    rw [of2_aff hi, pt2_aff hi, one2R_eq]
    refine relR2_mk hx hy one_ok2 ?_
    rw [v_one2]
    exact ⟨one_ne', (CR.mul_one _).symm, (CR.mul_one _).symm⟩
theorem to2_no {f0 : Fp2 → Fp2 × Int} {f1 : Fp2 → Fp2 → Fp2} {s : Fp6} (h : (f0 s.c2).2 = 7) : to2R_G f0 f1 s = infG2 := by
  unfold to2R_G
  rw [h]
  rfl
theorem to2_yes {f0 : Fp2 → Fp2 × Int} {f1 : Fp2 → Fp2 → Fp2} {s : Fp6} (h : (f0 s.c2).2 = 0) : to2R_G f0 f1 s = ⟨f1 s.c0 (f0 s.c2).1, f1 s.c1 (f0 s.c2).1, false⟩ := by
  unfold to2R_G
  rw [h]
  rfl
theorem to2_rel {s : Fp6} {p : Pt V2} (hp : p.on) (h : relR2 s p) : (to2R s).good ∧ (to2R s).pt = p := by
  obtain ⟨⟨h0, h1, h2⟩, hj⟩ := h
  obtain ⟨i1, i2⟩ := inv_v2' h2
  have ei := inv2R_eq h2
  unfold to2R
  cases p with
  | inf =>
    rw [to2_no (by rw [ei]; exact i1 hj.2.1)]
    exact ⟨good_inf2, rfl⟩
  | aff x y =>
    obtain ⟨hz, e1, e2⟩ := hj
    obtain ⟨j1, j2, j3⟩ := i2 hz
    rw [to2_yes (by rw [ei]; exact j1), ei, mul2R_eq h0 j2, mul2R_eq h1 j2]
    refine good2_mk (mul_ok2 h0 j2) (mul_ok2 h1 j2) ?_ ?_ hp
    · rw [v_mul2 h0 j2, j3, e1]
      exact pj_div hz
    · rw [v_mul2 h1 j2, j3, e2]
      exact pj_div hz
theorem times_rel2 {s : Fp6} {p : Pt V2} (hp : p.on) (h : relR2 s p) (e : List UInt64) : relR2 (timesR s e false) (p.mul (valL e)) :=
  dblG_all relR2 hp (fun hq h => add5_rel2 hq hq h h) (fun hq k => add5_rel2 hq hp k h) e none_rel2
theorem list4_val (k : Fr) : valL k.list = k.nat := by
  show valAt [k.l0, k.l1, k.l2, k.l3] 4 = _
  unfold Fr.nat
  simp only [valAt, atF, List.getD_eq_getElem?_getD, List.getElem?_cons_zero, List.getElem?_cons_succ, Option.getD_some, W64]
  omega
theorem times1_pt {s : Sp1} {p : Pt V1} (hp : p.on) (h : rel1 s p) (e : List UInt64) : rel1 (timesG1 s e) (p.mul (valL e)) :=
  dblG_all rel1 hp (fun hq h => twice1_rel hq h) (fun hq k => plus1_rel hq hp k h) e rel1_inf
theorem times2_pt {s : Fp6} {p : Pt V2} (hp : p.on) (h : rel2 s p) (e : List UInt64) : rel2 (timesG2 s e) (p.mul (valL e)) :=
  dblG_all rel2 hp (fun hq h => twice2_rel hq h) (fun hq k => plus2_rel hq hp k h) e rel2_inf
theorem times1R_def (f0 : Fp6 → Pg1) (f1 : Fp6 → List UInt64 → Bool → Fp6) (f2 : Pg1 → Fp6) (a : Pg1) (k : Fr) : times1R_G f0 f1 f2 a k = f0 (f1 (f2 a) k.list true) := rfl
theorem times2R_def (f0 : Fp6 → Pg2) (f1 : Fp6 → List UInt64 → Bool → Fp6) (f2 : Pg2 → Fp6) (a : Pg2) (k : Fr) : times2R_G f0 f1 f2 a k = f0 (f1 (f2 a) k.list false) := rfl
theorem times1R_pt {a : Pg1} (ha : a.good) (k : Fr) : (times1R a k).good ∧ (times1R a k).pt = a.pt.mul k.nat := by
  unfold times1R
  rw [times1R_def, ← list4_val]
  exact to1_rel (mul_on ha.2 _) (times_rel1 ha.2 (of1_rel ha) _)
theorem times2R_pt {a : Pg2} (ha : a.good) (k : Fr) : (times2R a k).good ∧ (times2R a k).pt = a.pt.mul k.nat := by
  unfold times2R
  rw [times2R_def, ← list4_val]
  exact to2_rel (mul_on ha.2 _) (times_rel2 ha.2 (of2_rel ha) _)
theorem minus1R_inf {f : Fp → Fp} {a : Pg1} (h : a.inf = true) : minus1R_G f a = a := by unfold minus1R_G; rw [h]; rfl
theorem minus1R_aff {f : Fp → Fp} {a : Pg1} (h : a.inf = false) : minus1R_G f a = ⟨a.x, f a.y, false⟩ := by unfold minus1R_G; rw [h]; rfl
theorem minus2R_inf {f : Fp2 → Fp2} {a : Pg2} (h : a.inf = true) : minus2R_G f a = a := by unfold minus2R_G; rw [h]; rfl
theorem minus2R_aff {f : Fp2 → Fp2} {a : Pg2} (h : a.inf = false) : minus2R_G f a = ⟨a.x, f a.y, false⟩ := by unfold minus2R_G; rw [h]; rfl
theorem minus1R_eq (a : Pg1) : minus1R a = negG1 a := by
  unfold minus1R negG1
  cases hi : a.inf with
  | true => rw [minus1R_inf hi, negG1_inf hi]
  | false => rw [minus1R_aff hi, negG1_aff hi, negPF_eq]
theorem minus2R_eq (a : Pg2) : minus2R a = negG2 a := by
  unfold minus2R negG2
  cases hi : a.inf with
  | true => rw [minus2R_inf hi, negG2_inf hi]
  | false => rw [minus2R_aff hi, negG2_aff hi, neg2R_eq]
end Go.Proofs.YtbbnabednkopdaaGreat

set_option linter.unusedSimpArgs false
set_option linter.unusedVariables false
namespace Go.Proofs.YtbbnabednkopdaaGreat
open Go.RowKit
def force {α : Type} (n : Nat) (k : Nat → α) : α := match n with
  | 0 => k 0
  | m + 1 => k (m + 1)
theorem force_eq {α : Type} (n : Nat) (k : Nat → α) : force n k = k n := by cases n <;> rfl
def fcV1 {α : Type} (a : V1) (k : V1 → α) : α := force a.nat fun n => k (V1.of n)
theorem fcV1_eq {α : Type} (a : V1) (k : V1 → α) : fcV1 a k = k a := by unfold fcV1; rw [force_eq, V1.of_nat]
def fcV2 {α : Type} (a : V2) (k : V2 → α) : α := force a.a.nat fun n => force a.b.nat fun m => k ⟨V1.of n, V1.of m⟩
theorem fcV2_eq {α : Type} (a : V2) (k : V2 → α) : fcV2 a k = k a := by unfold fcV2; rw [force_eq, force_eq, V1.of_nat, V1.of_nat]
def goP {K : Type} [Fld K] [Crv K] (fc : K → (K → K × K × K) → K × K × K) (b gx gy : K) (e : List UInt64) : Nat → K → K → K → K × K × K
  | 0, X, Y, Z => (X, Y, Z)
  | n + 1, X, Y, Z => fc (rx b X Y Z X Y Z) fun X' => fc (ry b X Y Z X Y Z) fun Y' => fc (rz b X Y Z X Y Z) fun Z' => match bitAt e n with
    | true => fc (rx b X' Y' Z' gx gy 1) fun X'' => fc (ry b X' Y' Z' gx gy 1) fun Y'' => fc (rz b X' Y' Z' gx gy 1) fun Z'' => goP fc b gx gy e n X'' Y'' Z''
    | false => goP fc b gx gy e n X' Y' Z'
theorem goP_eq {K : Type} [Fld K] [Crv K] {fc : K → (K → K × K × K) → K × K × K} (h : ∀ a k, fc a k = k a) (b gx gy : K) (e : List UInt64) : ∀ (n : Nat) (X Y Z : K),
    goP fc b gx gy e n X Y Z = dblG (fun s => (rx b s.1 s.2.1 s.2.2 s.1 s.2.1 s.2.2, ry b s.1 s.2.1 s.2.2 s.1 s.2.1 s.2.2, rz b s.1 s.2.1 s.2.2 s.1 s.2.1 s.2.2)) (fun s => (rx b s.1 s.2.1 s.2.2 gx gy 1, ry b s.1 s.2.1 s.2.2 gx gy 1, rz b s.1 s.2.1 s.2.2 gx gy 1)) e n (X, Y, Z)
  | 0, X, Y, Z => rfl
  | n + 1, X, Y, Z => by
    simp only [goP, h, dblG]
    cases bitAt e n with
    | true => exact goP_eq h b gx gy e n _ _ _
    | false => exact goP_eq h b gx gy e n _ _ _
theorem order_of {K : Type} [Fld K] [Crv K] {fc : K → (K → K × K × K) → K × K × K} (h : ∀ a k, fc a k = k a) {gx gy : K} (hg : (Pt.aff gx gy).on) (e : List UInt64) (hz : (goP fc Crv.b gx gy e (64 * e.length) 0 1 0).2.2 = 0) : (Pt.aff gx gy).mul (valL e) = .inf := by
  rw [goP_eq h] at hz
  have key := dblG_all (fun (s : K × K × K) p => Pj s.1 s.2.1 s.2.2 p) (p := Pt.aff gx gy) hg (tw := fun s => (rx Crv.b s.1 s.2.1 s.2.2 s.1 s.2.1 s.2.2, ry Crv.b s.1 s.2.1 s.2.2 s.1 s.2.1 s.2.2, rz Crv.b s.1 s.2.1 s.2.2 s.1 s.2.1 s.2.2)) (pl := fun s => (rx Crv.b s.1 s.2.1 s.2.2 gx gy 1, ry Crv.b s.1 s.2.1 s.2.2 gx gy 1, rz Crv.b s.1 s.2.1 s.2.2 gx gy 1))
    (fun hq k => sum_all hq hq k k) (fun hq k => sum_all hq hg k ⟨one_ne', (CR.mul_one _).symm, (CR.mul_one _).symm⟩) e (o := ((0 : K), (1 : K), (0 : K))) ⟨rfl, rfl, one_ne'⟩
  generalize (Pt.aff gx gy).mul (valL e) = p at *
  cases p with
  | inf => rfl
  | aff x y => exact absurd hz key.1
theorem gen1_ok : oneG1.x.ok ∧ oneG1.y.ok := ⟨by unfold Fp.ok; decide +kernel, by unfold Fp.ok; decide +kernel⟩
theorem gen1_aff : oneG1.inf = false := rfl
theorem gen1_on : (Pt.aff oneG1.x.v oneG1.y.v).on := V1.ext (by
  show (oneG1.y.v * oneG1.y.v).nat = (oneG1.x.v * oneG1.x.v * oneG1.x.v + (4 : V1)).nat
  rw [V1.nat_mul, V1.nat_add, V1.nat_mul, V1.nat_mul, Fp.v_nat gen1_ok.1, Fp.v_nat gen1_ok.2]
  decide +kernel)
theorem gen1_good : oneG1.good := ⟨.inr ⟨gen1_aff, gen1_ok⟩, gen1_on⟩
theorem gen1_pt : oneG1.pt = .aff oneG1.x.v oneG1.y.v := pt1_aff gen1_aff
theorem rLimbs_val : valL rLimbs.list = qN := by rw [list4_val, rLimbs_nat]
theorem gen1_order : oneG1.pt.mul qN = .inf := by
  rw [← rLimbs_val, gen1_pt]
  exact order_of (fc := fcV1) fcV1_eq gen1_on rLimbs.list (V1.ext (by decide +kernel))
theorem gen2_ok : oneG2.x.ok ∧ oneG2.y.ok := ⟨⟨by unfold Fp.ok; decide +kernel, by unfold Fp.ok; decide +kernel⟩, ⟨by unfold Fp.ok; decide +kernel, by unfold Fp.ok; decide +kernel⟩⟩
theorem gen2_aff : oneG2.inf = false := rfl
theorem V2.ext_nat {x y : V2} (h : x.a.nat = y.a.nat) (g : x.b.nat = y.b.nat) : x = y := Qd.ext' (V1.ext h) (V1.ext g)
theorem gen2_on : (Pt.aff oneG2.x.v oneG2.y.v).on := V2.ext_nat (by
  show ((oneG2.y.v * oneG2.y.v).a).nat = (oneG2.x.v * oneG2.x.v * oneG2.x.v + bb2).a.nat
  decide +kernel) (by
  show ((oneG2.y.v * oneG2.y.v).b).nat = (oneG2.x.v * oneG2.x.v * oneG2.x.v + bb2).b.nat
  decide +kernel)
theorem gen2_good : oneG2.good := ⟨.inr ⟨gen2_aff, gen2_ok⟩, gen2_on⟩
theorem gen2_pt : oneG2.pt = .aff oneG2.x.v oneG2.y.v := pt2_aff gen2_aff
theorem gen2_order : oneG2.pt.mul qN = .inf := by
  rw [← rLimbs_val, gen2_pt]
  exact order_of (fc := fcV2) fcV2_eq gen2_on rLimbs.list (V2.ext_nat (by decide +kernel) (by decide +kernel))
end Go.Proofs.YtbbnabednkopdaaGreat

set_option linter.unusedSimpArgs false
set_option linter.unusedVariables false
namespace Go.Proofs.YtbbnabednkopdaaGreat
open Go.RowKit
theorem jc_zero {X Y Z : V1} (h : Jc X Y Z .inf) : Z = 0 := h
theorem inG1_def (f0 : Pg1 → Bool) (f1 : Fp → Bool) (f2 : Sp1 → List UInt64 → Sp1) (f3 : Pg1 → Sp1) (f4 : Fr) (a : Pg1) : inG1_G f0 f1 f2 f3 f4 a = (f0 a && f1 (f2 (f3 a) f4.list).z) := by
  unfold inG1_G
  cases f0 a <;> rfl
theorem rel1_none {s : Sp1} {p : Pt V1} (h : rel1 s p) : zeroG1 s.z = true ↔ p = .inf := by
  rw [m1_zero h.1.2.2]
  constructor
  · exact h.2.inf_of
  · intro e
    subst e
    exact jc_zero h.2
theorem in1_iff (a : Pg1) : inG1 a = true ↔ a.good ∧ a.pt.mul qN = .inf := by
  have key : a.good → (zeroG1 (timesG1 (liftG1 a) rLimbs.list).z = true ↔ a.pt.mul qN = .inf) := fun hg => by
    rw [← rLimbs_val]
    exact rel1_none (times1_pt hg.2 (lift1_rel hg) rLimbs.list)
  unfold inG1
  rw [inG1_def, Bool.and_eq_true, on1_iff]
  exact ⟨fun h => ⟨h.1, (key h.1).1 h.2⟩, fun h => ⟨h.1, (key h.1).2 h.2⟩⟩
theorem two_nat : (⟨2, 0, 0, 0⟩ : Fr).nat = 2 := by decide +kernel
end Go.Proofs.YtbbnabednkopdaaGreat

set_option linter.unusedSimpArgs false
set_option linter.unusedVariables false
namespace Go.Proofs.YtbbnabednkopdaaGreat
open Go.RowKit
theorem jc_zero2 {X Y Z : V2} (h : Jc X Y Z .inf) : Z = 0 := h
theorem inG2_def (f0 : Pg2 → Bool) (f1 : Fp2 → Bool) (f2 : Fp6 → List UInt64 → Fp6) (f3 : Pg2 → Fp6) (f4 : Fr) (a : Pg2) : inG2_G f0 f1 f2 f3 f4 a = (f0 a && f1 (f2 (f3 a) f4.list).c2) := by
  unfold inG2_G
  cases f0 a <;> rfl
theorem rel2_none {s : Fp6} {p : Pt V2} (h : rel2 s p) : zeroG2 s.c2 = true ↔ p = .inf := by
  rw [m2_zero h.1.2.2]
  constructor
  · exact h.2.inf_of
  · intro e
    subst e
    exact jc_zero2 h.2
theorem in2_iff (a : Pg2) : inG2 a = true ↔ a.good ∧ a.pt.mul qN = .inf := by
  have key : a.good → (zeroG2 (timesG2 (liftG2 a) rLimbs.list).c2 = true ↔ a.pt.mul qN = .inf) := fun hg => by
    rw [← rLimbs_val]
    exact rel2_none (times2_pt hg.2 (lift2_rel hg) rLimbs.list)
  unfold inG2
  rw [inG2_def, Bool.and_eq_true, on2_iff]
  exact ⟨fun h => ⟨h.1, (key h.1).1 h.2⟩, fun h => ⟨h.1, (key h.1).2 h.2⟩⟩
end Go.Proofs.YtbbnabednkopdaaGreat

set_option linter.unusedSimpArgs false
set_option linter.unusedVariables false
namespace Go.Proofs.YtbbnabednkopdaaGreat
open Go.RowKit
def coreG {X P : Type} (xo : X × Int) (sF : X → X × Bool) (cub : X → X) (isz : X → Bool) (fin : Bool → X → X → P) (inF : P → Bool) (z : P) (high : Bool) : P × Int :=
  cond (xo.2 != 0) (z, xo.2) (cond (!(sF (cub xo.1)).2) (z, 5) (cond (high && isz (sF (cub xo.1)).1) (z, 3) (cond (!inF (fin high xo.1 (sF (cub xo.1)).1)) (z, 6) (fin high xo.1 (sF (cub xo.1)).1, 0))))
def takeV {P : Type} (r : List UInt8 × Bool × Bool × Int) (z i : P) (c : P × Int) : P × Int := cond (r.2.2.2 != 0) (z, r.2.2.2) (cond r.2.1 (i, 0) c)
def twoG (f1 : List UInt8 → Fp × Int) (l : List UInt8) : Fp2 × Int := cond ((f1 (List.take 48 l)).2 != 0) (zeroFp2, (f1 (List.take 48 l)).2) (cond ((f1 (List.drop 48 l)).2 != 0) (zeroFp2, (f1 (List.drop 48 l)).2) (⟨(f1 (List.drop 48 l)).1, (f1 (List.take 48 l)).1⟩, 0))
theorem take1_val (f0 : List UInt8 → Int → List UInt8 × Bool × Bool × Int) (f1 : List UInt8 → Fp × Int) (f2 : Fp → Fp × Bool) (f3 f4 : Fp → Fp → Fp) (f5 : UInt64 → Fp) (f6 : Pg1 → Pg1) (f7 : Pg1 → Bool) (b : List UInt8) :
    (take1F_T f0 f1 f2 f3 f4 f5 f6 f7 b).outD (pg10, 0) = takeV (f0 b 48) pg10 infG1 (coreG (f1 (f0 b 48).1) f2 (fun x => f3 (f4 (f4 x x) x) (f5 4)) (fun y => fpEq y zeroFp) (fun h x y => cond h (f6 ⟨x, y, false⟩) ⟨x, y, false⟩) f7 pg10 (f0 b 48).2.2.1) := by
  unfold take1F_T takeV coreG
  simp only [outD_br, outD_vc, outD_leaf, whole8]
  generalize f0 b 48 = r
  obtain ⟨l, i, h, e⟩ := r
  generalize f1 l = x
  obtain ⟨x, o⟩ := x
  have e4 : f5 (UInt64.ofNat 4) = f5 4 := rfl
  rw [e4]
  generalize f2 (f3 (f4 (f4 x x) x) (f5 4)) = s
  obtain ⟨y, is⟩ := s
  cases h <;> cases is <;> first
    | rfl
    | (cases hz : fpEq y zeroFp <;> rfl)
theorem dropTail (l : List UInt8) : List.take (l.length - 48) (List.drop 48 l) = List.drop 48 l := List.take_of_length_le (by rw [List.length_drop]; exact Nat.le_refl _)
theorem take2_val (f0 : List UInt8 → Int → List UInt8 × Bool × Bool × Int) (f1 : List UInt8 → Fp × Int) (f2 : Fp2 → Fp2 × Bool) (f3 f4 : Fp2 → Fp2 → Fp2) (f6 : Pg2 → Pg2) (f7 : Pg2 → Bool) (b : List UInt8) :
    (take2F_T f0 f1 f2 f3 f4 f6 f7 b).outD (pg20, 0) = takeV (f0 b 96) pg20 infG2 (coreG (twoG f1 (f0 b 96).1) f2 (fun x => f3 (f4 (f4 x x) x) bFp2) (fun y => fp2Eq y zeroFp2) (fun h x y => cond h (f6 ⟨x, y, false⟩) ⟨x, y, false⟩) f7 pg20 (f0 b 96).2.2.1) := by
  unfold take2F_T takeV coreG twoG
  simp only [outD_br, outD_vc, outD_leaf, dropTail, List.drop_zero, List.take_length]
  generalize f0 b 96 = r
  obtain ⟨l, i, h, e⟩ := r
  simp only
  generalize f1 (List.take 48 l) = x
  obtain ⟨x, o⟩ := x
  generalize f1 (List.drop 48 l) = z
  obtain ⟨z, o2⟩ := z
  simp only
  cases hx : (o != 0) with
  | true => simp only [cond_true, hx]; rfl
  | false =>
    cases hz : (o2 != 0) with
    | true => simp only [cond_true, cond_false, hz]; rfl
    | false =>
      simp only [cond_false]
      have e4 : ({ c0 := { l0 := UInt64.ofNat 4, l1 := UInt64.ofNat 0, l2 := UInt64.ofNat 0, l3 := UInt64.ofNat 0, l4 := UInt64.ofNat 0, l5 := UInt64.ofNat 0 }, c1 := { l0 := UInt64.ofNat 4, l1 := UInt64.ofNat 0, l2 := UInt64.ofNat 0, l3 := UInt64.ofNat 0, l4 := UInt64.ofNat 0, l5 := UInt64.ofNat 0 } } : Fp2) = bFp2 := rfl
      rw [e4]
      generalize f2 (f3 (f4 (f4 ⟨z, x⟩ ⟨z, x⟩) ⟨z, x⟩) bFp2) = s
      obtain ⟨y, is⟩ := s
      cases h <;> cases is <;> first
        | rfl
        | (cases hz : fp2Eq y zeroFp2 <;> rfl)
end Go.Proofs.YtbbnabednkopdaaGreat

set_option linter.unusedSimpArgs false
set_option linter.unusedVariables false
namespace Go.Proofs.YtbbnabednkopdaaGreat
open Go.RowKit
theorem u8_all {p : UInt8 → Bool} (h : (List.range 256).all (fun n => p (UInt8.ofNat n)) = true) (b : UInt8) : p b = true := by
  have := List.all_eq_true.1 h b.toNat (List.mem_range.2 b.toNat_lt)
  rwa [UInt8.ofNat_toNat] at this
abbrev cub1 (x : Fp) : Fp := addF (mulF (mulF x x) x) (ofF 4)
abbrev cub2 (x : Fp2) : Fp2 := addF2 (mulF2 (mulF2 x x) x) bFp2
theorem of4 : ofF 4 = bFp1 := (fpEq_iff _ _).1 (by decide +kernel)
theorem cub1_v {x : Fp} (hx : x.ok) : (cub1 x).ok ∧ (cub1 x).v = x.v * x.v * x.v + Crv.b := by
  have h1 : (mulF x x).ok := mul_ok' hx
  have h2 : (mulF (mulF x x) x).ok := mul_ok' h1
  have hb := bFp1_v
  unfold cub1
  rw [of4]
  exact ⟨add_ok' h2 hb.1, by rw [v_add h2 hb.1, v_mul h1 hx, v_mul hx hx, hb.2]⟩
theorem cub2_v {x : Fp2} (hx : x.ok) : (cub2 x).ok ∧ (cub2 x).v = x.v * x.v * x.v + Crv.b := by
  have h1 : (mulF2 x x).ok := mul_ok2 hx hx
  have h2 : (mulF2 (mulF2 x x) x).ok := mul_ok2 h1 hx
  have hb := bFp2_v
  unfold cub2
  exact ⟨add_ok2 h2 hb.1, by rw [v_add2 h2 hb.1, v_mul2 h1 hx, v_mul2 hx hx, hb.2]⟩
theorem neg1_aff (x y : Fp) : negG1 ⟨x, y, false⟩ = ⟨x, negPF y, false⟩ := by rw [← minus1R_eq]; exact minus1R_aff rfl
theorem neg2_aff (x y : Fp2) : negG2 ⟨x, y, false⟩ = ⟨x, neg2R y, false⟩ := by rw [← minus2R_eq]; exact minus2R_aff rfl
abbrev fin1 (h : Bool) (x y : Fp) : Pg1 := cond h (negG1 ⟨x, y, false⟩) ⟨x, y, false⟩
abbrev fin2 (h : Bool) (x y : Fp2) : Pg2 := cond h (negG2 ⟨x, y, false⟩) ⟨x, y, false⟩
abbrev core1 (l : List UInt8) (h : Bool) : Pg1 × Int := coreG (ftakeF l) sqrtF cub1 (fun y => fpEq y zeroFp) fin1 inG1 pg10 h
abbrev core2 (l : List UInt8) (h : Bool) : Pg2 × Int := coreG (twoG ftakeF l) sqrtF2 cub2 (fun y => fp2Eq y zeroFp2) fin2 inG2 pg20 h
theorem take1F_val (b : List UInt8) : take1F b = takeV (bareF b 48) pg10 infG1 (core1 (bareF b 48).1 (bareF b 48).2.2.1) := take1_val bareF ftakeF sqrtF addF mulF ofF negG1 inG1 b
theorem take2F_val (b : List UInt8) : take2F b = takeV (bareF b 96) pg20 infG2 (core2 (bareF b 96).1 (bareF b 96).2.2.1) := take2_val bareF ftakeF sqrtF2 addF2 mulF2 negG2 inG2 b
end Go.Proofs.YtbbnabednkopdaaGreat

set_option linter.unusedSimpArgs false
set_option linter.unusedVariables false
namespace Go.Proofs.YtbbnabednkopdaaGreat
open Go.RowKit
theorem getD_hd (l : List UInt8) (h : 0 < l.length) (v : UInt8) : (l.set 0 v).getD 0 0 = v := by
  cases l with
  | nil => cases h
  | cons a l => rfl
theorem set_hd (l : List UInt8) : l.set 0 (l.getD 0 0) = l := by
  cases l with
  | nil => rfl
  | cons a l => rfl
theorem set_set_hd (l : List UInt8) (v w : UInt8) : (l.set 0 v).set 0 w = l.set 0 w := by
  cases l with
  | nil => rfl
  | cons a l => rfl
theorem getD_hdB (l : List UInt8) (h : 0 < l.length) (t : UInt8) : (hdB l t).getD 0 0 = l.getD 0 0 + t := getD_hd l h _
abbrev hiB (g : Bool) : UInt8 := cond g 160 128
theorem b_or (c : UInt8) : (!decide (c < 32) || (c ||| 128 == c + 128 && (c ||| 128 ||| 32 == c + 160))) = true := u8_all (p := fun c => !decide (c < 32) || (c ||| 128 == c + 128 && (c ||| 128 ||| 32 == c + 160))) (by decide +kernel) c
theorem b_hi (c : UInt8) : (!decide (c < 32) || (((c + 128) &&& UInt8.ofNat 128 == UInt8.ofNat 0) == false && ((c + 160) &&& UInt8.ofNat 128 == UInt8.ofNat 0) == false && ((c + 128) &&& UInt8.ofNat 64 != UInt8.ofNat 0) == false && ((c + 160) &&& UInt8.ofNat 64 != UInt8.ofNat 0) == false && ((c + 128) &&& UInt8.ofNat 32 != UInt8.ofNat 0) == false && ((c + 160) &&& UInt8.ofNat 32 != UInt8.ofNat 0) == true && (c + 128) &&& ~~~(UInt8.ofNat 224) == c && (c + 160) &&& ~~~(UInt8.ofNat 224) == c)) = true := u8_all (p := fun c => !decide (c < 32) || (((c + 128) &&& UInt8.ofNat 128 == UInt8.ofNat 0) == false && ((c + 160) &&& UInt8.ofNat 128 == UInt8.ofNat 0) == false && ((c + 128) &&& UInt8.ofNat 64 != UInt8.ofNat 0) == false && ((c + 160) &&& UInt8.ofNat 64 != UInt8.ofNat 0) == false && ((c + 128) &&& UInt8.ofNat 32 != UInt8.ofNat 0) == false && ((c + 160) &&& UInt8.ofNat 32 != UInt8.ofNat 0) == true && (c + 128) &&& ~~~(UInt8.ofNat 224) == c && (c + 160) &&& ~~~(UInt8.ofNat 224) == c)) (by decide +kernel) c
theorem mark_hd {l : List UInt8} (h0 : 0 < l.length) (hc : l.getD 0 0 < 32) (g : Bool) : markF l (false, g, ()) = hdB l (hiB g) := by
  have h := b_or (l.getD 0 0)
  rw [decide_eq_true hc, Bool.not_true, Bool.false_or, Bool.and_eq_true] at h
  have h1 := eq_of_beq h.1
  have h2 := eq_of_beq h.2
  cases g with
  | false =>
    show l.set 0 (l.getD 0 0 ||| 128) = _
    rw [h1]
    rfl
  | true =>
    show (l.set 0 (l.getD 0 0 ||| 128)).set 0 ((l.set 0 (l.getD 0 0 ||| 128)).getD 0 0 ||| 32) = _
    rw [getD_hd l h0, set_set_hd, h2]
    rfl
theorem bare_hd {l : List UInt8} {n : Int} (hl : (l.length : Int) = n) (h0 : 0 < l.length) (hc : l.getD 0 0 < 32) (g : Bool) : bareF (hdB l (hiB g)) n = (l, false, g, 0) := by
  have h := b_hi (l.getD 0 0)
  rw [decide_eq_true hc, Bool.not_true, Bool.false_or] at h
  simp only [Bool.and_eq_true] at h
  obtain ⟨⟨⟨⟨⟨⟨⟨a1, a2⟩, a3⟩, a4⟩, a5⟩, a6⟩, a7⟩, a8⟩ := h
  have e1 : bit7 (hdB l (hiB g)) = false := by
    unfold bit7
    rw [getD_hdB l h0]
    cases g
    · exact eq_of_beq a1
    · exact eq_of_beq a2
  have e2 : bit6 (hdB l (hiB g)) = false := by
    unfold bit6
    rw [getD_hdB l h0]
    cases g
    · exact eq_of_beq a3
    · exact eq_of_beq a4
  have e3 : bit5 (hdB l (hiB g)) = g := by
    unfold bit5
    rw [getD_hdB l h0]
    cases g
    · exact eq_of_beq a5
    · exact eq_of_beq a6
  have e4 : bareL (hdB l (hiB g)) = l := by
    unfold bareL
    rw [getD_hdB l h0]
    unfold hdB
    rw [set_set_hd]
    cases g
    · exact (congrArg (l.set 0) (eq_of_beq a7)).trans (set_hd l)
    · exact (congrArg (l.set 0) (eq_of_beq a8)).trans (set_hd l)
  unfold bareF
  rw [e1, e2, e3, e4, hdB_len, decide_eq_false (show ¬ (l.length : Int) < n by omega), decide_eq_false (show ¬ (l.length : Int) > n by omega)]
  rfl
theorem pN_top : pN < 32 * 256 ^ 47 := by decide +kernel
theorem top_low {x : Fp} (hx : x.ok) : (fputF x).getD 0 0 < 32 := by
  have hl : (cutF x.list).length ≤ 6 := Nat.le_trans (cutF_len x.list) (Nat.le_of_eq (fp_short x))
  have hv : bsum (cutF x.list) 48 = x.nat := by rw [show (48 : Nat) = 8 * 6 from rfl, bsum_val, valAt_out _ hl, valL_cut, valL_list]
  have hh : (fputF x).getD 0 0 = byteAt (cutF x.list) 47 := by
    rw [fput_full]
    exact bAt_full (cutF x.list) (n := 48) (t := 0) (by decide)
  have hs : bsum (cutF x.list) 48 = bsum (cutF x.list) 47 + (byteAt (cutF x.list) 47).toNat * 256 ^ 47 := rfl
  rw [hh]
  show (byteAt (cutF x.list) 47).toNat < 32
  have hx : x.nat < pN := hx
  have hp := pN_top
  generalize (256 : Nat) ^ 47 = q at *
  generalize (byteAt (cutF x.list) 47).toNat = c at *
  rcases Nat.lt_or_ge c 32 with h | h
  · exact h
  · have := Nat.mul_le_mul_right q h
    omega
theorem fput_pos (x : Fp) : 0 < (fputF x).length := by rw [fput_len']; decide
theorem two_top {x : Fp2} (hx : x.ok) : (fputF x.c1 ++ fputF x.c0).getD 0 0 < 32 := by
  have h := top_low hx.2
  have h0 := fput_pos x.c1
  generalize fputF x.c1 = l at *
  cases l with
  | nil => cases h0
  | cons a l => exact h
theorem two_len (x : Fp2) : (fputF x.c1 ++ fputF x.c0).length = 96 := by rw [List.length_append, fput_len', fput_len']
theorem two_pos (x : Fp2) : 0 < (fputF x.c1 ++ fputF x.c0).length := by rw [two_len]; decide
theorem twoG_put {x : Fp2} (hx : x.ok) : twoG ftakeF (fputF x.c1 ++ fputF x.c0) = (x, 0) := by
  unfold twoG
  rw [List.take_left' (fput_len' x.c1), List.drop_left' (fput_len' x.c1), take_put hx.1, take_put hx.2]
  rfl
abbrev put1B (x : Fp) : List UInt8 := fputF x
abbrev put2B (x : Fp2) : List UInt8 := fputF x.c1 ++ fputF x.c0
theorem put1B_ok {x : Fp} (hx : x.ok) : ((put1B x).length : Int) = 48 ∧ 0 < (put1B x).length ∧ (put1B x).getD 0 0 < 32 ∧ ftakeF (put1B x) = (x, 0) := ⟨by rw [show (put1B x).length = 48 from fput_len' x]; rfl, fput_pos x, top_low hx, take_put hx⟩
theorem put2B_ok {x : Fp2} (hx : x.ok) : ((put2B x).length : Int) = 96 ∧ 0 < (put2B x).length ∧ (put2B x).getD 0 0 < 32 ∧ twoG ftakeF (put2B x) = (x, 0) := ⟨by rw [show (put2B x).length = 96 from two_len x]; rfl, two_pos x, two_top hx, twoG_put hx⟩
theorem fr1 {a : Fp} (ha : a.ok) (h : a.v ≠ 0) : greatF (negF a) = !greatF a := great_neg ha h
theorem fr2 {a : Fp2} (ha : a.ok) (h : a.v ≠ 0) : greatF2 (negF2 a) = !greatF2 a := by rw [greatF2_eq, greatF2_eq]; exact great_neg2 ha h
theorem isz1 {a : Fp} (ha : a.ok) (h : a.v ≠ 0) : fpEq a zeroFp = false := (fpEq_nonzero ha).2 h
theorem isz2 {a : Fp2} (ha : a.ok) (h : a.v ≠ 0) : fp2Eq a zeroFp2 = false := by
  cases h2 : fp2Eq a zeroFp2 with
  | false => rfl
  | true => exact absurd ((v_eq_zero2 ha).2 ((fp2Eq_iff _ _).1 h2)) h
theorem rt1 {a : Fp} (ha : a.ok) (h : ∃ y : V1, y * y = a.v) : (sqrtF a).2 = true ∧ (sqrtF a).1.ok ∧ (sqrtF a).1.v * (sqrtF a).1.v = a.v ∧ greatF (sqrtF a).1 = false := (sqrt_law ha).1 h
theorem rt2 {a : Fp2} (ha : a.ok) (h : ∃ y : V2, y * y = a.v) : (sqrtF2 a).2 = true ∧ (sqrtF2 a).1.ok ∧ (sqrtF2 a).1.v * (sqrtF2 a).1.v = a.v ∧ greatF2 (sqrtF2 a).1 = false := by
  rcases sqrt_root2 ha with ⟨_, h0, h1, h2, h3⟩ | ⟨h1, _⟩
  · exact ⟨h0, h1, h2, by rw [greatF2_eq]; exact h3⟩
  · exact absurd h h1
theorem ng1 {a : Fp} (ha : a.ok) : (negF a).ok ∧ (negF a).v = -a.v := ⟨neg_ok' ha, v_neg ha⟩
theorem ng2 {a : Fp2} (ha : a.ok) : (negF2 a).ok ∧ (negF2 a).v = -a.v := ⟨neg_ok2 ha, v_neg2 ha⟩
theorem inj1 {a b : Fp} (ha : a.ok) (hb : b.ok) (h : a.v = b.v) : a = b := Fp.v_inj ha hb h
theorem inj2 {a b : Fp2} (ha : a.ok) (hb : b.ok) (h : a.v = b.v) : a = b := Fp2.v_inj ha hb h
theorem sq_eq {K : Type} [Fld K] {a b : K} (h : a * a = b * b) : a = b ∨ a = -b := by
  by_cases h1 : a = b
  · exact .inl h1
  · right
    have h2 : (a - b) * (a + b) = 0 := by grind
    have h3 : a - b ≠ 0 := fun e => h1 (by grind)
    have h4 := mul_eq_zero' h2
    rcases h4 with h4 | h4
    · exact absurd h4 h3
    · grind
theorem not_beq (b : Bool) : ((!b) == b) = false := by cases b <;> rfl
theorem takeV_inf {P : Type} (l : List UInt8) (g : Bool) (z i : P) (c : P × Int) : takeV (l, true, g, 0) z i c = (i, 0) := rfl
theorem takeV_go {P : Type} (l : List UInt8) (g : Bool) (z i : P) (c : P × Int) : takeV (l, false, g, 0) z i c = c := rfl
theorem ff_beq : (false == false) = true := rfl
theorem ft_beq : (false == true) = false := rfl
theorem tf_beq : (true == false) = false := rfl
theorem tt_beq : (true == true) = true := rfl
theorem pair_eq {X : Type} {s : X × Bool} {y : X} (h1 : s.1 = y) (h2 : s.2 = true) : s = (y, true) := by
  obtain ⟨a, b⟩ := s
  obtain rfl : a = y := h1
  obtain rfl : b = true := h2
  rfl
theorem coreG_at {X P : Type} {xo : X × Int} {sF : X → X × Bool} {cub : X → X} {isz : X → Bool} {fin : Bool → X → X → P} {inF : P → Bool} {z : P} {high : Bool} {x s : X} {p : P} (hx : xo = (x, 0)) (hs : sF (cub x) = (s, true)) (hz : isz s = false) (hf : fin high x s = p) (hin : inF p = true) : coreG xo sF cub isz fin inF z high = (p, 0) := by
  subst hx
  unfold coreG
  simp only
  rw [hs]
  simp only
  rw [hz, hf, hin, Bool.and_false]
  rfl
theorem neg_aff1 (x y : Fp) : negG1 ⟨x, y, false⟩ = ⟨x, negF y, false⟩ := by rw [neg1_aff, negPF_eq]
theorem neg_aff2 (x y : Fp2) : negG2 ⟨x, y, false⟩ = ⟨x, negF2 y, false⟩ := by rw [neg2_aff, neg2R_eq]
theorem y_ne1 {x y : Fp} (h : (⟨x, y, false⟩ : Pg1).good) : y.v ≠ 0 := fun e => by
  have h1 : y.v * y.v = x.v * x.v * x.v + Crv.b := h.2
  rw [e] at h1
  exact Crv.no x.v (by rw [← h1]; exact CR.zero_mul _)
theorem oks1 {x y : Fp} (h : (⟨x, y, false⟩ : Pg1).good) : x.ok ∧ y.ok := by
  rcases h.1 with e | e
  · cases e
  · exact e.2
theorem negneg1 {y : Fp} (hy : y.ok) : negF (negF y) = y := by
  have h1 := ng1 hy
  have h2 := ng1 h1.1
  exact inj1 h2.1 hy (by rw [h2.2, h1.2]; grind)
theorem root_of1 {x y : Fp} (h : (⟨x, y, false⟩ : Pg1).good) : (sqrtF (cub1 x)).2 = true ∧ (sqrtF (cub1 x)).1 = cond (greatF y) (negF y) y := by
  obtain ⟨hx, hy⟩ := oks1 h
  have h0 := y_ne1 h
  have h1 : y.v * y.v = x.v * x.v * x.v + Crv.b := h.2
  obtain ⟨c1, c2⟩ := cub1_v hx
  obtain ⟨r1, r2, r3, r4⟩ := rt1 c1 ⟨y.v, by rw [h1, c2]⟩
  refine ⟨r1, ?_⟩
  rw [c2, ← h1] at r3
  have hn := ng1 hy
  rcases sq_eq r3 with e | e
  · have e := inj1 r2 hy e
    rw [e] at r4
    rw [r4, e, cond_false]
  · have e := inj1 r2 hn.1 (by rw [e, hn.2])
    rw [e, fr1 hy h0] at r4
    have r4 : greatF y = true := by
      cases hg : greatF y with
      | true => rfl
      | false => rw [hg] at r4; cases r4
    rw [r4, e, cond_true]
theorem finAt1 (g h : Bool) (x : Fp) {y : Fp} (hy : y.ok) : fin1 g x (cond h (negF y) y) = cond (g == h) ⟨x, y, false⟩ ⟨x, negF y, false⟩ := by
  unfold fin1
  cases g <;> cases h
  · rw [ff_beq, cond_true, cond_false, cond_false]
  · rw [ft_beq, cond_true, cond_false, cond_false]
  · rw [tf_beq, cond_false, cond_false, cond_true, neg_aff1]
  · rw [tt_beq, cond_true, cond_true, cond_true, neg_aff1, negneg1 hy]
theorem in_of1 {p : Pg1} (h : p.good) (hi : p.pt.mul qN = .inf) : inG1 p = true := (in1_iff _).2 ⟨h, hi⟩
theorem neg_sub1 {p : Pg1} (h : p.good) (hi : p.pt.mul qN = .inf) : (negG1 p).good ∧ (negG1 p).pt.mul qN = .inf := by
  obtain ⟨n1, n2⟩ := neg1_pt h
  exact ⟨n1, by rw [n2, neg_mul_pt h.2, hi]; rfl⟩
theorem in_cond1 {x y : Fp} (h : (⟨x, y, false⟩ : Pg1).good) (hi : (⟨x, y, false⟩ : Pg1).pt.mul qN = .inf) (c : Bool) : inG1 (cond c ⟨x, y, false⟩ ⟨x, negF y, false⟩) = true := by
  cases c
  · rw [cond_false, ← neg_aff1]
    obtain ⟨h1, h2⟩ := neg_sub1 h hi
    exact in_of1 h1 h2
  · rw [cond_true]
    exact in_of1 h hi
theorem isz_cond1 {y : Fp} (hy : y.ok) (h0 : y.v ≠ 0) (c : Bool) : fpEq (cond c (negF y) y) zeroFp = false := by
  have hn := ng1 hy
  cases c
  · rw [cond_false]
    exact isz1 hy h0
  · rw [cond_true]
    exact isz1 hn.1 fun e => h0 (by rw [hn.2] at e; grind)
theorem core_at1 {x y : Fp} (h : (⟨x, y, false⟩ : Pg1).good) (hi : (⟨x, y, false⟩ : Pg1).pt.mul qN = .inf) {l : List UInt8} (hl : ftakeF l = (x, 0)) (g : Bool) : core1 l g = (cond (g == greatF y) ⟨x, y, false⟩ ⟨x, negF y, false⟩, 0) := by
  obtain ⟨r1, r2⟩ := root_of1 h
  exact coreG_at hl (pair_eq r2 r1) (isz_cond1 (oks1 h).2 (y_ne1 h) _) (finAt1 g _ x (oks1 h).2) (in_cond1 h hi _)
theorem put1_hd {x y : Fp} (hx : x.ok) : put1F ⟨x, y, false⟩ = hdB (put1B x) (hiB (greatF y)) := by
  obtain ⟨h1, h2, h3, h4⟩ := put1B_ok hx
  rw [put1F_val]
  exact mark_hd h2 h3 _
theorem bare_inf1 : bareF inf1B 48 = (List.replicate 48 0, true, false, 0) := by decide +kernel
theorem take_inf1 : take1F inf1B = (infG1, 0) := by
  rw [take1F_val, bare_inf1]
  exact takeV_inf _ _ _ _ _
theorem read1 {p : Pg1} (hp : p.good) (hi : p.pt.mul qN = .inf) : take1F (put1F p) = (p, 0) := by
  cases hj : p.inf with
  | true =>
    obtain rfl := ok_inf1 hp.1 hj
    exact take_inf1
  | false =>
    obtain ⟨x, y, i⟩ := p
    obtain rfl : i = false := hj
    have hx := (oks1 hp).1
    obtain ⟨h1, h2, h3, h4⟩ := put1B_ok hx
    rw [put1_hd hx, take1F_val, bare_hd h1 h2 h3]
    refine (takeV_go _ _ _ _ _).trans ?_
    rw [core_at1 hp hi h4, beq_self_eq_true, cond_true]
theorem read_turned1 {x y : Fp} (hp : (⟨x, y, false⟩ : Pg1).good) (hi : (⟨x, y, false⟩ : Pg1).pt.mul qN = .inf) : take1F (hdB (put1B x) (hiB (!greatF y))) = (negG1 ⟨x, y, false⟩, 0) := by
  have hx := (oks1 hp).1
  obtain ⟨h1, h2, h3, h4⟩ := put1B_ok hx
  rw [take1F_val, bare_hd h1 h2 h3]
  refine (takeV_go _ _ _ _ _).trans ?_
  rw [core_at1 hp hi h4, neg_aff1]
  exact (congrArg (fun c => ((cond c ⟨x, y, false⟩ ⟨x, negF y, false⟩ : Pg1), (0 : Int))) (not_beq (greatF y))).trans (congrArg (fun p : Pg1 => (p, (0 : Int))) (cond_false _ _))
theorem y_ne2 {x y : Fp2} (h : (⟨x, y, false⟩ : Pg2).good) : y.v ≠ 0 := fun e => by
  have h1 : y.v * y.v = x.v * x.v * x.v + Crv.b := h.2
  rw [e] at h1
  exact Crv.no x.v (by rw [← h1]; exact CR.zero_mul _)
theorem oks2 {x y : Fp2} (h : (⟨x, y, false⟩ : Pg2).good) : x.ok ∧ y.ok := by
  rcases h.1 with e | e
  · cases e
  · exact e.2
theorem negneg2 {y : Fp2} (hy : y.ok) : negF2 (negF2 y) = y := by
  have h1 := ng2 hy
  have h2 := ng2 h1.1
  exact inj2 h2.1 hy (by rw [h2.2, h1.2]; grind)
theorem root_of2 {x y : Fp2} (h : (⟨x, y, false⟩ : Pg2).good) : (sqrtF2 (cub2 x)).2 = true ∧ (sqrtF2 (cub2 x)).1 = cond (greatF2 y) (negF2 y) y := by
  obtain ⟨hx, hy⟩ := oks2 h
  have h0 := y_ne2 h
  have h1 : y.v * y.v = x.v * x.v * x.v + Crv.b := h.2
  obtain ⟨c1, c2⟩ := cub2_v hx
  obtain ⟨r1, r2, r3, r4⟩ := rt2 c1 ⟨y.v, by rw [h1, c2]⟩
  refine ⟨r1, ?_⟩
  rw [c2, ← h1] at r3
  have hn := ng2 hy
  rcases sq_eq r3 with e | e
  · have e := inj2 r2 hy e
    rw [e] at r4
    rw [r4, e, cond_false]
  · have e := inj2 r2 hn.1 (by rw [e, hn.2])
    rw [e, fr2 hy h0] at r4
    have r4 : greatF2 y = true := by
      cases hg : greatF2 y with
      | true => rfl
      | false => rw [hg] at r4; cases r4
    rw [r4, e, cond_true]
theorem finAt2 (g h : Bool) (x : Fp2) {y : Fp2} (hy : y.ok) : fin2 g x (cond h (negF2 y) y) = cond (g == h) ⟨x, y, false⟩ ⟨x, negF2 y, false⟩ := by
  unfold fin2
  cases g <;> cases h
  · rw [ff_beq, cond_true, cond_false, cond_false]
  · rw [ft_beq, cond_true, cond_false, cond_false]
  · rw [tf_beq, cond_false, cond_false, cond_true, neg_aff2]
  · rw [tt_beq, cond_true, cond_true, cond_true, neg_aff2, negneg2 hy]
theorem in_of2 {p : Pg2} (h : p.good) (hi : p.pt.mul qN = .inf) : inG2 p = true := (in2_iff _).2 ⟨h, hi⟩
theorem neg_sub2 {p : Pg2} (h : p.good) (hi : p.pt.mul qN = .inf) : (negG2 p).good ∧ (negG2 p).pt.mul qN = .inf := by
  obtain ⟨n1, n2⟩ := neg2_pt h
  exact ⟨n1, by rw [n2, neg_mul_pt h.2, hi]; rfl⟩
theorem in_cond2 {x y : Fp2} (h : (⟨x, y, false⟩ : Pg2).good) (hi : (⟨x, y, false⟩ : Pg2).pt.mul qN = .inf) (c : Bool) : inG2 (cond c ⟨x, y, false⟩ ⟨x, negF2 y, false⟩) = true := by
  cases c
  · rw [cond_false, ← neg_aff2]
    obtain ⟨h1, h2⟩ := neg_sub2 h hi
    exact in_of2 h1 h2
  · rw [cond_true]
    exact in_of2 h hi
theorem isz_cond2 {y : Fp2} (hy : y.ok) (h0 : y.v ≠ 0) (c : Bool) : fp2Eq (cond c (negF2 y) y) zeroFp2 = false := by
  have hn := ng2 hy
  cases c
  · rw [cond_false]
    exact isz2 hy h0
  · rw [cond_true]
    exact isz2 hn.1 fun e => h0 (by rw [hn.2] at e; grind)
theorem core_at2 {x y : Fp2} (h : (⟨x, y, false⟩ : Pg2).good) (hi : (⟨x, y, false⟩ : Pg2).pt.mul qN = .inf) {l : List UInt8} (hl : twoG ftakeF l = (x, 0)) (g : Bool) : core2 l g = (cond (g == greatF2 y) ⟨x, y, false⟩ ⟨x, negF2 y, false⟩, 0) := by
  obtain ⟨r1, r2⟩ := root_of2 h
  exact coreG_at hl (pair_eq r2 r1) (isz_cond2 (oks2 h).2 (y_ne2 h) _) (finAt2 g _ x (oks2 h).2) (in_cond2 h hi _)
theorem put2_hd {x y : Fp2} (hx : x.ok) : put2F ⟨x, y, false⟩ = hdB (put2B x) (hiB (greatF2 y)) := by
  obtain ⟨h1, h2, h3, h4⟩ := put2B_ok hx
  rw [put2F_val]
  exact mark_hd h2 h3 _
theorem bare_inf2 : bareF inf2B 96 = (List.replicate 96 0, true, false, 0) := by decide +kernel
theorem take_inf2 : take2F inf2B = (infG2, 0) := by
  rw [take2F_val, bare_inf2]
  exact takeV_inf _ _ _ _ _
theorem read2 {p : Pg2} (hp : p.good) (hi : p.pt.mul qN = .inf) : take2F (put2F p) = (p, 0) := by
  cases hj : p.inf with
  | true =>
    obtain rfl := ok_inf2 hp.1 hj
    exact take_inf2
  | false =>
    obtain ⟨x, y, i⟩ := p
    obtain rfl : i = false := hj
    have hx := (oks2 hp).1
    obtain ⟨h1, h2, h3, h4⟩ := put2B_ok hx
    rw [put2_hd hx, take2F_val, bare_hd h1 h2 h3]
    refine (takeV_go _ _ _ _ _).trans ?_
    rw [core_at2 hp hi h4, beq_self_eq_true, cond_true]
theorem read_turned2 {x y : Fp2} (hp : (⟨x, y, false⟩ : Pg2).good) (hi : (⟨x, y, false⟩ : Pg2).pt.mul qN = .inf) : take2F (hdB (put2B x) (hiB (!greatF2 y))) = (negG2 ⟨x, y, false⟩, 0) := by
  have hx := (oks2 hp).1
  obtain ⟨h1, h2, h3, h4⟩ := put2B_ok hx
  rw [take2F_val, bare_hd h1 h2 h3]
  refine (takeV_go _ _ _ _ _).trans ?_
  rw [core_at2 hp hi h4, neg_aff2]
  exact (congrArg (fun c => ((cond c ⟨x, y, false⟩ ⟨x, negF2 y, false⟩ : Pg2), (0 : Int))) (not_beq (greatF2 y))).trans (congrArg (fun p : Pg2 => (p, (0 : Int))) (cond_false _ _))
end Go.Proofs.YtbbnabednkopdaaGreat

set_option linter.unusedSimpArgs false
set_option linter.unusedVariables false
namespace Go.Proofs.YtbbnabednkopdaaGreat
open Go.RowKit
theorem begun10_L {g1 : Pg1} {p1 : Pg1 → List UInt8} {t1 : List UInt8 → Pg1 × Int} {g2 : Pg2} {p2 : Pg2 → List UInt8} {t2 : List UInt8 → Pg2 × Int} (h1 : t1 (p1 g1) = (g1, 0)) (h2 : t2 (p2 g2) = (g2, 0)) : (begun10_T g1 p1 t1 g2 p2 t2).outD false = true := by
  unfold begun10_T
  simp only [outD_br, outD_vc, outD_leaf, List.drop_zero, List.take_length, h1, h2, (pg1Eq_iff g1 g1).2 rfl, beq_self_eq_true, Bool.and_true, cond_true]
theorem begun10_true : begun10 = true := begun10_L (read1 gen1_good gen1_order) (read2 gen2_good gen2_order)
end Go.Proofs.YtbbnabednkopdaaGreat

set_option linter.unusedSimpArgs false
set_option linter.unusedVariables false
namespace Go.Proofs.YtbbnabednkopdaaGreat
theorem prime_of_big {n F : Nat} (hn1 : 1 < n) (key : ∀ d, IsPrime d → d ∣ n → F ∣ d - 1) (hF : n < (F + 1) * (F + 1)) : IsPrime n := by
  have key : ∀ d, IsPrime d → d ∣ n → F + 1 ≤ d := fun d hd hdn => by
    have := Nat.le_of_dvd (by have := hd.1; omega) (key d hd hdn)
    have := hd.1
    omega
  refine ⟨hn1, fun x hx => ?_⟩
  by_cases hx1 : x = 1
  · exact .inl hx1
  · right
    obtain ⟨y, hy⟩ := hx
    have hx0 : x ≠ 0 := by rintro rfl; omega
    by_cases hy1 : y = 1
    · subst hy1; omega
    · have hy0 : y ≠ 0 := by rintro rfl; omega
      obtain ⟨d, hd, hdx⟩ := exists_prime_dvd x (by omega)
      obtain ⟨e, he, hey⟩ := exists_prime_dvd y (by omega)
      have h1 := key d hd (Nat.dvd_trans hdx ⟨y, hy⟩)
      have h2 := key e he (Nat.dvd_trans hey ⟨x, by rw [hy, Nat.mul_comm]⟩)
      have h3 := Nat.le_of_dvd (by omega) hdx
      have h4 := Nat.le_of_dvd (by omega) hey
      have := Nat.mul_le_mul (Nat.le_trans h1 h3) (Nat.le_trans h2 h4)
      omega
theorem pock_dvd {n q r a k : Nat} (hn : n = q * r + 1) (hq : IsPrime q) (hr : 0 < r) (hk : q * r < 2 ^ k) (h1 : mpow k a (q * r) n = 1) (h2 : Nat.gcd (mpow k a r n + (n - 1)) n = 1) {d : Nat} (hd : IsPrime d) (hdn : d ∣ n) : q ∣ d - 1 := by
  have hrq : r < 2 ^ k := Nat.lt_of_le_of_lt (Nat.le_mul_of_pos_left r (by have := hq.1; omega)) hk
  rw [mpow_eq n k a _ hk] at h1
  rw [mpow_eq n k a _ hrq] at h2
  exact pock_key hn hq hr h1 h2 hd hdn
theorem dvd_two {a b m : Nat} (h : Nat.gcd a b = 1) (ha : a ∣ m) (hb : b ∣ m) : a * b ∣ m := Nat.Coprime.mul_dvd_of_dvd_of_dvd h ha hb
theorem prime_10177 : IsPrime 10177 := prime_of_noDiv (k := 100) (by decide) (by decide +kernel) (by decide)
theorem prime_125527 : IsPrime 125527 := prime_of_noDiv (k := 354) (by decide) (by decide +kernel) (by decide)
theorem prime_47737 : IsPrime 47737 := prime_of_noDiv (k := 217) (by decide) (by decide +kernel) (by decide)
theorem prime_859267 : IsPrime 859267 := pock 0 (q := 47737) (r := 18) (a := 2) (k := 30) (by decide) prime_47737 (by decide) (fun k h => absurd h (by omega)) (by decide) (by decide) (by decide +kernel) (by decide +kernel)
theorem prime_1607 : IsPrime 1607 := prime_of_noDiv (k := 40) (by decide) (by decide +kernel) (by decide)
theorem prime_906349 : IsPrime 906349 := pock 0 (q := 1607) (r := 564) (a := 2) (k := 30) (by decide) prime_1607 (by decide) (fun k h => absurd h (by omega)) (by decide) (by decide) (by decide +kernel) (by decide +kernel)
theorem prime_2508409 : IsPrime 2508409 := prime_of_noDiv (k := 1583) (by decide) (by decide +kernel) (by decide)
theorem prime_18329 : IsPrime 18329 := prime_of_noDiv (k := 135) (by decide) (by decide +kernel) (by decide)
theorem prime_2529403 : IsPrime 2529403 := pock 0 (q := 18329) (r := 138) (a := 2) (k := 30) (by decide) prime_18329 (by decide) (fun k h => absurd h (by omega)) (by decide) (by decide) (by decide +kernel) (by decide +kernel)
theorem prime_609743 : IsPrime 609743 := prime_of_noDiv (k := 781) (by decide) (by decide +kernel) (by decide)
theorem prime_52437899 : IsPrime 52437899 := pock 0 (q := 609743) (r := 86) (a := 2) (k := 30) (by decide) prime_609743 (by decide) (fun k h => absurd h (by omega)) (by decide) (by decide) (by decide +kernel) (by decide +kernel)
theorem dvd_qN {d : Nat} (hd : IsPrime d) (hdn : d ∣ qN) : 331010811950628058101279066386724501604961 ∣ d - 1 := (dvd_two (a := 6312434675360049381484164084963139) (b := 52437899) (by decide +kernel) (dvd_two (a := 2495622356484929203248420313) (b := 2529403) (by decide +kernel) (dvd_two (a := 994902488583372649057) (b := 2508409) (by decide +kernel) (dvd_two (a := 1097703521031493) (b := 906349) (by decide +kernel) (dvd_two (a := 1277488279) (b := 859267) (by decide +kernel) (dvd_two (a := 10177) (b := 125527) (by decide +kernel) (pock_dvd (n := qN) (q := 10177) (r := 5152390210781781515127025695999407078479959958782316775336902692339449856) (a := 2) (k := 255) (by decide +kernel) prime_10177 (by decide +kernel) (by decide +kernel) (by decide +kernel) (by decide +kernel) hd hdn) (pock_dvd (n := qN) (q := 125527) (r := 417725869136729074059347714102830194601086240414633009811464136798765056) (a := 2) (k := 255) (by decide +kernel) prime_125527 (by decide +kernel) (by decide +kernel) (by decide +kernel) (by decide +kernel) hd hdn)) (pock_dvd (n := qN) (q := 859267) (r := 61023960160376449321861238134579782346686830170980193377150127608692736) (a := 2) (k := 255) (by decide +kernel) prime_859267 (by decide +kernel) (by decide +kernel) (by decide +kernel) (by decide +kernel) hd hdn)) (pock_dvd (n := qN) (q := 906349) (r := 57853956009358636109763171259841369977448590444219211167666824479244288) (a := 2) (k := 255) (by decide +kernel) prime_906349 (by decide +kernel) (by decide +kernel) (by decide +kernel) (by decide +kernel) hd hdn)) (pock_dvd (n := qN) (q := 2508409) (r := 20904037250355181503274681484632675866531555460264908084209416686010368) (a := 2) (k := 255) (by decide +kernel) prime_2508409 (by decide +kernel) (by decide +kernel) (by decide +kernel) (by decide +kernel) hd hdn)) (pock_dvd (n := qN) (q := 2529403) (r := 20730534112249487519168649878325425342537568153642435714120548880482304) (a := 2) (k := 255) (by decide +kernel) prime_2529403 (by decide +kernel) (by decide +kernel) (by decide +kernel) (by decide +kernel) hd hdn)) (pock_dvd (n := qN) (q := 52437899) (r := 999961405302035279473110478895921551656570994587857873989262207090688) (a := 2) (k := 255) (by decide +kernel) prime_52437899 (by decide +kernel) (by decide +kernel) (by decide +kernel) (by decide +kernel) hd hdn))
theorem prime_qN : IsPrime qN := prime_of_big (F := 331010811950628058101279066386724501604961) (by decide +kernel) (fun d hd hdn => dvd_qN hd hdn) (by decide +kernel)
end Go.Proofs.YtbbnabednkopdaaGreat

set_option linter.unusedSimpArgs false
set_option linter.unusedVariables false
namespace Go.Proofs.YtbbnabednkopdaaGreat
theorem mul_gcd {K : Type} [Fld K] [Crv K] {p : Pt K} (hp : p.on) : ∀ m n : Nat, p.mul m = .inf → p.mul n = .inf → p.mul (Nat.gcd m n) = .inf := by
  intro m n
  induction m, n using Nat.gcd.induction with
  | H0 n => intro _ h; rw [Nat.gcd_zero_left]; exact h
  | H1 m n hm ih =>
    intro h1 h2
    rw [Nat.gcd_rec]
    refine ih ?_ h1
    rw [mul_mod_pt hp h1]
    exact h2
theorem mul_ne_inf {K : Type} [Fld K] [Crv K] {p : Pt K} (hp : p.on) (h0 : p ≠ .inf) (hq : p.mul qN = .inf) {k : Nat} (hk : 0 < k) (hk2 : k < qN) : p.mul k ≠ .inf := fun h => by
  have hg := mul_gcd hp qN k hq h
  have h1 : Nat.gcd qN k = 1 := prime_qN.coprime fun hd => by
    have := Nat.le_of_dvd hk hd
    omega
  rw [h1, mul_one_pt] at hg
  exact h0 hg
theorem gen1_ne : oneG1.pt ≠ .inf := by rw [gen1_pt]; exact fun h => by cases h
theorem gen2_ne : oneG2.pt ≠ .inf := by rw [gen2_pt]; exact fun h => by cases h
end Go.Proofs.YtbbnabednkopdaaGreat

set_option linter.unusedSimpArgs false
set_option linter.unusedVariables false
namespace Go.Proofs.YtbbnabednkopdaaGreat
open Go.RowKit
theorem takeSet (l : List UInt8) (i : Nat) (v : UInt8) : List.take l.length (List.drop 0 (l.set i v)) = l.set i v := by rw [List.drop_zero]; exact List.take_of_length_le (Nat.le_of_eq (List.length_set ..))
theorem turned_vc (f0 : Bool) (f1 : Fr → Bool) (f2 : Pg1 → Fr → Pg1) (f3 : Pg1) (f4 : Pg2 → Fr → Pg2) (f5 : Pg2) (f6 : Pg1 → List UInt8) (f7 : Pg2 → List UInt8) (f8 : List UInt8 → Pg1 × Int) (f9 : List UInt8 → Pg2 × Int) (f10 : Pg1 → Pg1) (f11 : Pg2 → Pg2) (k : Fr) (h6 : ∀ a, (f6 a).length = 48) (h7 : ∀ a, (f7 a).length = 96) :
    (ptTurned_T f0 f1 f2 f3 f4 f5 f6 f7 f8 f9 f10 f11 k).full = true ∧ (ptTurned_T f0 f1 f2 f3 f4 f5 f6 f7 f8 f9 f10 f11 k).okAll := by
  refine ⟨rfl, ?_⟩
  unfold ptTurned_T
  simp only [Tree.okAll, Pr.holds, map_b, List.length_set, h6, h7, littleB, List.length_take, List.length_drop, implies_true, and_true, true_and]
  intros
  refine ⟨by omega, fun _ => ⟨by omega, fun _ => ?_⟩⟩
  omega
theorem turned_L {f0 : Bool} {f1 : Fr → Bool} {f2 : Pg1 → Fr → Pg1} {f3 : Pg1} {f4 : Pg2 → Fr → Pg2} {f5 : Pg2} {f6 : Pg1 → List UInt8} {f7 : Pg2 → List UInt8} {f8 : List UInt8 → Pg1 × Int} {f9 : List UInt8 → Pg2 × Int} {f10 : Pg1 → Pg1} {f11 : Pg2 → Pg2} {k : Fr} (h0 : f0 = true) (h6 : ∀ a, (f6 a).length = 48) (h7 : ∀ a, (f7 a).length = 96)
    (h8 : f1 k = true → frEq k zeroFr = false → f8 ((f6 (f2 f3 k)).set 0 ((f6 (f2 f3 k)).getD 0 0 ^^^ UInt8.ofNat 32)) = (f10 (f2 f3 k), 0))
    (h9 : f1 k = true → frEq k zeroFr = false → f9 ((f7 (f4 f5 k)).set 0 ((f7 (f4 f5 k)).getD 0 0 ^^^ UInt8.ofNat 32)) = (f11 (f4 f5 k), 0)) :
    (ptTurned_T f0 f1 f2 f3 f4 f5 f6 f7 f8 f9 f10 f11 k).outD false = true := by
  unfold ptTurned_T
  subst h0
  simp only [outD_br, outD_vc, outD_leaf, takeSet, Bool.not_true, cond_false]
  cases hm : f1 k with
  | false => rfl
  | true =>
    cases hz : frEq k zeroFr with
    | true =>
      rw [show frEq k { l0 := UInt64.ofNat 0, l1 := UInt64.ofNat 0, l2 := UInt64.ofNat 0, l3 := UInt64.ofNat 0 } = true from hz]
      rfl
    | false =>
      rw [show frEq k { l0 := UInt64.ofNat 0, l1 := UInt64.ofNat 0, l2 := UInt64.ofNat 0, l3 := UInt64.ofNat 0 } = false from hz]
      simp only [h8 hm hz, h9 hm hz, (pg1Eq_iff _ _).2 rfl, (pg2Eq_iff _ _).2 rfl, beq_self_eq_true, Bool.not_true, cond_false, cond_true, Bool.and_true]
      rw [show ((f6 (f2 f3 k)).length : Int) = 48 by rw [h6]; rfl, show ((f7 (f4 f5 k)).length : Int) = 96 by rw [h7]; rfl]
      rfl
theorem b_turn (c : UInt8) : (!decide (c < 32) || ((c + 128) ^^^ UInt8.ofNat 32 == c + 160 && (c + 160) ^^^ UInt8.ofNat 32 == c + 128)) = true := u8_all (p := fun c => !decide (c < 32) || ((c + 128) ^^^ UInt8.ofNat 32 == c + 160 && (c + 160) ^^^ UInt8.ofNat 32 == c + 128)) (by decide +kernel) c
theorem turn_hd {l : List UInt8} (h0 : 0 < l.length) (hc : l.getD 0 0 < 32) (g : Bool) : (hdB l (hiB g)).set 0 ((hdB l (hiB g)).getD 0 0 ^^^ UInt8.ofNat 32) = hdB l (hiB (!g)) := by
  have h := b_turn (l.getD 0 0)
  rw [decide_eq_true hc, Bool.not_true, Bool.false_or, Bool.and_eq_true] at h
  rw [getD_hdB l h0]
  unfold hdB
  rw [set_set_hd]
  cases g
  · exact congrArg (l.set 0) (eq_of_beq h.1)
  · exact congrArg (l.set 0) (eq_of_beq h.2)
theorem nat_ne_zero {k : Fr} (h : frEq k zeroFr = false) : 0 < k.nat := by
  rcases Nat.eq_zero_or_pos k.nat with e | e
  · have : k = zeroFr := Fr.nat_inj (by rw [e, zeroFr_nat])
    rw [this, (frEq_iff _ _).2 rfl] at h
    cases h
  · exact e
theorem turned1 {p : Pg1} (hp : p.good) (hi : p.pt.mul qN = .inf) (hn : p.pt ≠ .inf) : take1F ((put1F p).set 0 ((put1F p).getD 0 0 ^^^ UInt8.ofNat 32)) = (minus1R p, 0) := by
  rw [minus1R_eq]
  obtain ⟨x, y, i⟩ := p
  cases i with
  | true => exact absurd (pt1_inf rfl) hn
  | false =>
    have hx := (oks1 hp).1
    obtain ⟨h1, h2, h3, h4⟩ := put1B_ok hx
    rw [put1_hd hx, turn_hd h2 h3]
    exact read_turned1 hp hi
theorem turned2 {p : Pg2} (hp : p.good) (hi : p.pt.mul qN = .inf) (hn : p.pt ≠ .inf) : take2F ((put2F p).set 0 ((put2F p).getD 0 0 ^^^ UInt8.ofNat 32)) = (minus2R p, 0) := by
  rw [minus2R_eq]
  obtain ⟨x, y, i⟩ := p
  cases i with
  | true => exact absurd (pt2_inf rfl) hn
  | false =>
    have hx := (oks2 hp).1
    obtain ⟨h1, h2, h3, h4⟩ := put2B_ok hx
    rw [put2_hd hx, turn_hd h2 h3]
    exact read_turned2 hp hi
theorem gt1 (k : Fr) : (times1R gen1R k).good ∧ (times1R gen1R k).pt = oneG1.pt.mul k.nat ∧ (times1R gen1R k).pt.mul qN = .inf := by
  obtain ⟨h1, h2⟩ := times1R_pt gen1_good k
  exact ⟨h1, h2, by rw [show times1R gen1R k = times1R oneG1 k from rfl, h2, ← mul_mul_pt gen1_good.2, Nat.mul_comm, mul_mul_pt gen1_good.2, gen1_order, mul_inf_pt]⟩
theorem gt2 (k : Fr) : (times2R gen2R k).good ∧ (times2R gen2R k).pt = oneG2.pt.mul k.nat ∧ (times2R gen2R k).pt.mul qN = .inf := by
  obtain ⟨h1, h2⟩ := times2R_pt gen2_good k
  exact ⟨h1, h2, by rw [show times2R gen2R k = times2R oneG2 k from rfl, h2, ← mul_mul_pt gen2_good.2, Nat.mul_comm, mul_mul_pt gen2_good.2, gen2_order, mul_inf_pt]⟩
theorem may_lt {k : Fr} (h : mayRF k = true) : k.nat < qN := by
  rw [mayRF_nat] at h
  exact of_decide_eq_true h
theorem pointTurned_gives {w : World} {vk : Value} {k : Fr} (gk : (kRow Fr).arg.is w vk k) : Gives Tryz.prog 11 #[vk] w kBool.rs.res true := by
  have := ptTurned_gives' (fun k => turned_vc _ _ _ _ _ _ _ _ _ _ _ _ k put1F_len put2F_len) gk
  rw [show ptTurned k = true from turned_L begun10_true put1F_len put2F_len
    (fun hm hz => turned1 (gt1 k).1 (gt1 k).2.2 (by rw [(gt1 k).2.1]; exact mul_ne_inf gen1_good.2 gen1_ne gen1_order (nat_ne_zero hz) (may_lt hm)))
    (fun hm hz => turned2 (gt2 k).1 (gt2 k).2.2 (by rw [(gt2 k).2.1]; exact mul_ne_inf gen2_good.2 gen2_ne gen2_order (nat_ne_zero hz) (may_lt hm)))] at this
  exact this
end Go.Proofs.YtbbnabednkopdaaGreat
