/- The base field's statements: FpPowers, what it computes. -/
import Derived.Test.YtfkmooldindfjaaFA
import Derived.Test.YtfkmooldindfjaaFC
import Derived.Test.YtfkmooldindfjaaED
set_option linter.unusedSimpArgs false
set_option linter.unusedVariables false
namespace Go.Proofs.Ytfkmooldindfjaa
open Go.RowKit

noncomputable abbrev lpowE (b : Bool) (mpF : Fp → Bool) (iF kF : Fp → Fp × Int) (sF tF : Fp → Fp × Bool) (pF qF : Fp → List UInt64 → Fp) : Env := En [(9, Kb b), (10, Kfb mpF), (11, Kinv iF), (12, Kinv kF), (13, Ksqrt sF), (14, Ksqrt tF), (15, Kpow pF), (16, Kpow qF)]
def lpow_run_T (c0 c1 c2 c3 c4 c5 c6 c7 : Bool) (p0 p1 : Prop) : Tree (Option (Bool × Pr)) :=
  (.br (!c0)
    (.leaf (some (false, .t)))
    (.br (!c1)
      (.leaf (some (true, .t)))
      (.vc p0
        (.br c2
          (.leaf (some (true, .t)))
          (.vc p1
            (.vc p1
              (.br c3
                (.br c4
                  (.br c5
                    (.br c6
                      (.leaf (some (c7, .t)))
                      (.leaf (some (false, .t))))
                    (.leaf (some (false, .t))))
                  (.leaf (some (false, .t))))
                (.leaf (some (false, .t))))))))))
theorem lpow_run (b : Bool) (mpF : Fp → Bool) (iF kF : Fp → Fp × Int) (sF tF : Fp → Fp × Bool) (pF qF : Fp → List UInt64 → Fp) (a : Fp) (e : List UInt64) : endT (lpowE b mpF iF kF sF tF pF qF) oB 300 Try.f3 (flat (codeOf Try.f3)) (startSt Try.f3 [vF a, iL.av 0 e] [inHE eU64 e]) = lpow_run_T ((b)) ((mpF a)) ((decide ((↑e.length : Int) > 7))) ((fpEq (pF a (List.take e.length (List.drop 0 e))) (qF a (List.take e.length (List.drop 0 e))))) ((fpEq ((iF a).fst) ((kF a).fst))) (((iF a).snd == (kF a).snd)) ((fpEq ((sF a).fst) ((tF a).fst))) (((sF a).snd == (tF a).snd)) (0 + e.length * 1 ≤ (List.map EK.u64.cell e).length ∧ 0 < 1) (0 + e.length ≤ e.length ∧ e.length < 1125899906842624 ∧ 0 = 0 ∧ 1 = 1) := by kernel_rfl

theorem lpow_ok : ∀ (p0 p1 : Prop) (c1 c2 c3 c4 c5 c6 c7 : Bool), (!c1 || c2 || (c3 && c4 && c5 && c6 && c7)) = true → (lpow_run_T true c1 c2 c3 c4 c5 c6 c7 p0 p1).evalV = true := fun p0 p1 => of_decide_eq_true (by kernel_rfl)
theorem lpow_vc {p0 p1 : Prop} (h0 : p0) (h1 : p1) (c0 c1 c2 c3 c4 c5 c6 c7 : Bool) : (lpow_run_T c0 c1 c2 c3 c4 c5 c6 c7 p0 p1).vcAll := by
  simp only [lpow_run_T, Tree.vcAll, h0, h1, implies_true, and_true]

theorem lpow_gives (hb : CallOk Try.prog 9 (Kb true))
    (h : ∀ (a : Fp) (e : List UInt64), (!mayPF a || decide ((e.length : Int) > 7) || (fpEq (powF a e) (powPF a e) && fpEq (invF a).1 (invPF a).1 && ((invF a).2 == (invPF a).2) && fpEq (sqrtF a).1 (sqrtPF a).1 && ((sqrtF a).2 == (sqrtPF a).2))) = true)
    (a : Fp) {w : World} {v : Value} {e : List UInt64} (he : SlIs eU64 w v e) : Gives Try.prog 3 #[rowV a, v] w kBool.rs.res true :=
  G2g (E := lpowE true mayPF invF invPF sqrtF sqrtPF powF powPF) Try.func3 (c := codeOf Try.f3) (by kernel_rfl) (kRow Fp).inp iL oB true (x := a) rfl he fun _ hl => by
    have hl : e.length < 1125899906842624 := hl
    refine DoesL.ends (En_ok (.cons hb (.cons mayP_ok (.cons inv_ok (.cons invP_ok (.cons sqrt_ok (.cons sqrtP_ok (.cons pow_ok (.cons powP_ok .nil))))))))) 300 (lpow_run true mayPF invF invPF sqrtF sqrtPF powF powPF a e) (Tree.law_sat (lpow_ok _ _ _ _ _ _ _ _ _ ?_) (lpow_vc (vcLen e) (okL' hl) _ _ _ _ _ _ _ _))
    rw [whole]
    exact h a e

end Go.Proofs.Ytfkmooldindfjaa
