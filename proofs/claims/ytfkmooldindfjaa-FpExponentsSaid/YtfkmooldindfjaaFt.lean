/- The base field's statements: FpExponents, what it computes. -/
import Derived.Test.YtfkmooldindfjaaFA
import Derived.Test.YtfkmooldindfjaaFC
import Derived.Test.YtfkmooldindfjaaED
set_option linter.unusedSimpArgs false
set_option linter.unusedVariables false
namespace Go.Proofs.Ytfkmooldindfjaa
open Go.RowKit

abbrev Kll (F : List UInt64 → List UInt64 → List UInt64 × Int) : Contract := K2 aLt aLt rLI F
abbrev Ksum (F : List UInt64 → List UInt64 → List UInt64) : Contract := K2 aLt aLt rL F
noncomputable abbrev lexpE (b : Bool) (mpF : Fp → Bool) (m : Fp) (lF : List UInt64 → List UInt64 → List UInt64 × Int) (oF' : UInt64 → Fp) (mF : Fp → Fp → Fp) (pF : Fp → List UInt64 → Fp) (sF : List UInt64 → List UInt64 → List UInt64) : Env := Ens [(9, Kb b), (10, Kfb mpF), (22, K0 (rS 24) m), (21, Kll lF), (19, Kof oF'), (17, Kff mF), (15, Kpow pF), (23, Ksum sF)] [22, 21, 23]
def lexp_run_T (c0 c1 c2 c3 c4 c5 c6 c7 c8 : Bool) (p0 p1 p2 p3 p4 p5 p6 p7 : Prop) : Tree (Option (Bool × Pr)) :=
  (.br (!c0)
    (.leaf (some (false, .t)))
    (.br (!c1)
      (.leaf (some (true, .t)))
      (.vc p0
        (.br c2
          (.leaf (some (true, .t)))
          (.vc p1
            (.br c3
              (.leaf (some (true, .t)))
              (.vc p2
                (.br c4
                  (.vc p3
                    (.vc p4
                      (.vc p5
                        (.vc p6
                          (.br c5
                            (.vc p7
                              (.br c6
                                (.leaf (some (c7, .t)))
                                (.leaf (some (false, .t)))))
                            (.leaf (some (false, .t))))))))
                  (.vc p3
                    (.vc p4
                      (.vc p5
                        (.vc p6
                          (.br c5
                            (.vc p7
                              (.br c8
                                (.leaf (some (c7, .t)))
                                (.leaf (some (false, .t)))))
                            (.leaf (some (false, .t))))))))))))))))
theorem lexp_run (b : Bool) (mpF : Fp → Bool) (m : Fp) (lF : List UInt64 → List UInt64 → List UInt64 × Int) (oF' : UInt64 → Fp) (mF : Fp → Fp → Fp) (pF : Fp → List UInt64 → Fp) (sF : List UInt64 → List UInt64 → List UInt64) (a : Fp) (d e : List UInt64) : endT (lexpE b mpF m lF oF' mF pF sF) oB 300 Try.f5 (flat (codeOf Try.f5)) (startSt Try.f5 [vF a, iL.av 0 d, iL.av 1 e] [inHE eU64 d, inHE eU64 e]) = lexp_run_T ((b)) ((mpF a)) ((decide ((↑d.length : Int) > 5))) ((decide ((↑e.length : Int) > 5))) ((fpEq (a) (oF' (UInt64.ofNat 0)))) ((fpEq (mF (pF a (List.take d.length (List.drop 0 d))) (pF a (List.take e.length (List.drop 0 e)))) (pF a (List.take (sF (List.take d.length (List.drop 0 d)) (List.take e.length (List.drop 0 e))).length (List.drop 0 (sF (List.take d.length (List.drop 0 d)) (List.take e.length (List.drop 0 e)))))))) ((fpEq (pF a (List.take (lF [m.l0, m.l1, m.l2, m.l3, m.l4, m.l5] [UInt64.ofNat 1]).fst.length (List.drop 0 (lF [m.l0, m.l1, m.l2, m.l3, m.l4, m.l5] [UInt64.ofNat 1]).fst))) (a))) ((fpEq (pF a []) (oF' (UInt64.ofNat 1)))) ((fpEq (pF a (List.take (lF [m.l0, m.l1, m.l2, m.l3, m.l4, m.l5] [UInt64.ofNat 1]).fst.length (List.drop 0 (lF [m.l0, m.l1, m.l2, m.l3, m.l4, m.l5] [UInt64.ofNat 1]).fst))) (oF' (UInt64.ofNat 1)))) (0 + d.length * 1 ≤ (List.map EK.u64.cell d).length ∧ 0 < 1) (0 + e.length * 1 ≤ (List.map EK.u64.cell e).length ∧ 0 < 1) (tiny [m.l0, m.l1, m.l2, m.l3, m.l4, m.l5] ∧ tiny [UInt64.ofNat 1]) (0 + d.length ≤ d.length ∧ d.length < 1125899906842624 ∧ 0 = 0 ∧ 1 = 1) (0 + e.length ≤ e.length ∧ e.length < 1125899906842624 ∧ 0 = 0 ∧ 1 = 1) (((0 + d.length ≤ d.length ∧ d.length < 1125899906842624 ∧ 0 = 0 ∧ 1 = 1) ∧ tiny (List.take d.length (List.drop 0 d))) ∧ (0 + e.length ≤ e.length ∧ e.length < 1125899906842624 ∧ 0 = 0 ∧ 1 = 1) ∧ tiny (List.take e.length (List.drop 0 e))) (0 + (sF (List.take d.length (List.drop 0 d)) (List.take e.length (List.drop 0 e))).length ≤ (sF (List.take d.length (List.drop 0 d)) (List.take e.length (List.drop 0 e))).length ∧ (sF (List.take d.length (List.drop 0 d)) (List.take e.length (List.drop 0 e))).length < 1125899906842624 ∧ 0 = 0 ∧ 1 = 1) (0 + (lF [m.l0, m.l1, m.l2, m.l3, m.l4, m.l5] [UInt64.ofNat 1]).fst.length ≤ (lF [m.l0, m.l1, m.l2, m.l3, m.l4, m.l5] [UInt64.ofNat 1]).fst.length ∧ (lF [m.l0, m.l1, m.l2, m.l3, m.l4, m.l5] [UInt64.ofNat 1]).fst.length < 1125899906842624 ∧ 0 = 0 ∧ 1 = 1) := by kernel_rfl

theorem lexp_ok : ∀ (p0 p1 p2 p3 p4 p5 p6 p7 : Prop) (c1 c2 c3 c4 c5 c6 c7 c8 : Bool), (!c1 || c2 || c3 || (c5 && c7 && (c4 && c6 || !c4 && c8))) = true → (lexp_run_T true c1 c2 c3 c4 c5 c6 c7 c8 p0 p1 p2 p3 p4 p5 p6 p7).evalV = true := fun p0 p1 p2 p3 p4 p5 p6 p7 => of_decide_eq_true (by kernel_rfl)
theorem lexp_vc {p0 p1 p2 p3 p4 p5 p6 p7 : Prop} {c0 c1 c2 c3 c4 c5 c6 c7 c8 : Bool} (h0 : p0) (h1 : p1) (h2 : p2) (h3 : p3) (h4 : p4) (h5 : c2 = false → c3 = false → p5) (h6 : c2 = false → c3 = false → p6) (h7 : p7) : (lexp_run_T c0 c1 c2 c3 c4 c5 c6 c7 c8 p0 p1 p2 p3 p4 p5 p6 p7).vcAll := by
  simp +contextual only [lexp_run_T, Tree.vcAll, h0, h1, h2, h3, h4, h5, h6, h7, implies_true, and_true]

def lexpG (mpF : Fp → Bool) (m : Fp) (lF : List UInt64 → List UInt64 → List UInt64 × Int) (oF' : UInt64 → Fp) (mF : Fp → Fp → Fp) (pF : Fp → List UInt64 → Fp) (sF : List UInt64 → List UInt64 → List UInt64) (a : Fp) (d e : List UInt64) : Bool :=
  !mpF a || decide ((d.length : Int) > 5) || decide ((e.length : Int) > 5) || (fpEq (mF (pF a d) (pF a e)) (pF a (sF d e)) && fpEq (pF a []) (oF' 1) && (fpEq a (oF' 0) && fpEq (pF a (lF m.list [1]).1) a || !fpEq a (oF' 0) && fpEq (pF a (lF m.list [1]).1) (oF' 1)))
theorem lexp_gives (hb : CallOk Try.prog 9 (Kb true))
    (h : ∀ (a : Fp) (d e : List UInt64), lexpG mayPF pLimbs rlessF ofF mulF powF sumF a d e = true)
    (a : Fp) {w : World} {u v : Value} {d e : List UInt64} (hd : SlIs eU64 w u d) (he : SlIs eU64 w v e) : Gives Try.prog 5 #[rowV a, u, v] w kBool.rs.res true :=
  G3g (E := lexpE true mayPF pLimbs rlessF ofF mulF powF sumF) Try.func5 (c := codeOf Try.f5) (by kernel_rfl) (kRow Fp).inp iL iL oB true (x := a) rfl hd he fun _ hl hl' => by
    have hl : d.length < 1125899906842624 := hl
    have hl' : e.length < 1125899906842624 := hl'
    refine DoesL.ends (Ens_ok (.cons hb (.cons mayP_ok (.cons P_ok (.cons rless_ok (.cons of_ok (.cons mul_ok (.cons pow_ok (.cons rsum_ok .nil))))))))) 300 (lexp_run true mayPF pLimbs rlessF ofF mulF powF sumF a d e) (Tree.law_sat (lexp_ok _ _ _ _ _ _ _ _ _ _ _ _ _ _ _ _ ?_) (lexp_vc (vcLen d) (vcLen e) ⟨?_, ?_⟩ (okL' hl) (okL' hl') (fun h2 h3 => ⟨okT ?_, okT ?_⟩) (fun h2 h3 => okL' ?_) (okL' ?_)))
    · rw [whole, whole, whole, whole]
      exact h a d e
    · show pLimbs.list.length < _; rw [pList_len]; decide
    · show 1 < 4294967296; decide
    · have h2 := of_decide_eq_false h2; omega
    · have h3 := of_decide_eq_false h3; omega
    · rw [whole, whole]
      have h2 := of_decide_eq_false h2
      have h3 := of_decide_eq_false h3
      have := sum_len d e
      omega
    · exact Nat.lt_of_le_of_lt (rless_len pLimbs.list [1]) (by decide)

end Go.Proofs.Ytfkmooldindfjaa
