/- What the functions of the statements of layers 5 and 7 compute: those with exponents. -/
import Derived.Test.YtehhcpopfgieeaaPm
set_option linter.unusedSimpArgs false
set_option linter.unusedVariables false
namespace Go.Proofs.Ytehhcpopfgieeaa
open Go.RowKit

abbrev kP2 : Kd Fp2 := kRow Fp2
abbrev kP12 : Kd Fp12 := kRow Fp12
abbrev K22 (F : Fp2 → Fp2) : Contract := K1 kP2.arg kP2.rs.res F
abbrev K222 (F : Fp2 → Fp2 → Fp2) : Contract := K2 kP2.arg kP2.arg kP2.rs.res F
abbrev K2b (F : Fp2 → Bool) : Contract := K1 kP2.arg kBool.rs.res F
abbrev K2i (F : Fp2 → Fp2 × Int) : Contract := K1 kP2.arg (kP2.rs2 kInt).res F
abbrev K2r (F : Fp2 → Fp2 × Bool) : Contract := K1 kP2.arg (kP2.rs2 kBool).res F
abbrev K2p (F : Fp2 → List UInt64 → Fp2) : Contract := K2 kP2.arg aL kP2.rs.res F
noncomputable abbrev rootsE (b : Bool) (mF : Fp2 → Bool) (sF tF : Fp2 → Fp2 × Bool) (pF qF : Fp2 → List UInt64 → Fp2) : Env := En [(27, K0 kBool.rs.res b), (28, K2b mF), (29, K2r sF), (63, K2r tF), (64, K2p pF), (65, K2p qF)]
def roots_run_T (c0 c1 c2 c3 c4 c5 : Bool) (p0 p1 : Prop) : Tree (Option (Bool × Pr)) :=
  (.br (!c0)
    (.leaf (some (false, .t)))
    (.br (!c1)
      (.leaf (some (true, .t)))
      (.vc p0
        (.br c2
          (.leaf (some (true, .t)))
          (.br c3
            (.br c4
              (.vc p1
                (.vc p1
                  (.leaf (some (c5, .t)))))
              (.leaf (some (false, .t))))
            (.leaf (some (false, .t))))))))
theorem roots_run (b : Bool) (mF : Fp2 → Bool) (sF tF : Fp2 → Fp2 × Bool) (pF qF : Fp2 → List UInt64 → Fp2) (a : Fp2) (e : List UInt64) : endT (rootsE b mF sF tF pF qF) oB 300 Try.f10 (flat (codeOf Try.f10)) (startSt Try.f10 [vF2 a, iL.av 0 e] [inHE eU64 e]) = roots_run_T ((b)) ((mF a)) ((decide ((↑e.length : Int) > 7))) ((fp2Eq ((sF a).fst) ((tF a).fst))) (((sF a).snd == (tF a).snd)) ((fp2Eq (pF a (List.take e.length (List.drop 0 e))) (qF a (List.take e.length (List.drop 0 e))))) (0 + e.length * 1 ≤ (List.map EK.u64.cell e).length ∧ 0 < 1) (0 + e.length ≤ e.length ∧ e.length < 1125899906842624 ∧ 0 = 0 ∧ 1 = 1) := by kernel_rfl

noncomputable abbrev field2E (b : Bool) (mF : Fp2 → Bool) (iF : Fp2 → Fp2 × Int) (aF uF : Fp2 → Fp2 → Fp2) (cF : Fp2 → Fp2) (pF : Fp2 → List UInt64 → Fp2) (P : Fp) : Env := Ens [(27, K0 kBool.rs.res b), (28, K2b mF), (34, K2i iF), (36, K222 aF), (30, K222 uF), (42, K22 cF), (64, K2p pF), (48, K0 rSu P)] [48]
def field2_run_T (c0 c1 c2 c3 c4 c5 c6 c7 c8 c9 c10 c11 c12 : Bool) : Tree (Option (Bool × Pr)) :=
  (.br (!c0)
    (.leaf (some (false, .t)))
    (.br (!c1)
      (.leaf (some (true, .t)))
      (.br (!c2)
        (.leaf (some (true, .t)))
        (.br (!c3)
          (.leaf (some (true, .t)))
          (.br c4
            (.br c5
              (.br c6
                (.br c7
                  (.br c8
                    (.br c9
                      (.br c10
                        (.leaf (some (true, .t)))
                        (.br c11
                          (.leaf (some (c12, .t)))
                          (.leaf (some (false, .t)))))
                      (.br c11
                        (.leaf (some (c12, .t)))
                        (.leaf (some (false, .t)))))
                    (.leaf (some (false, .t))))
                  (.leaf (some (false, .t))))
                (.br c7
                  (.leaf (some (false, .t)))
                  (.leaf (some (false, .t)))))
              (.br c6
                (.leaf (some (false, .t)))
                (.leaf (some (false, .t)))))
            (.br c6
              (.leaf (some (false, .t)))
              (.leaf (some (false, .t)))))))))
theorem field2_run (b : Bool) (mF : Fp2 → Bool) (iF : Fp2 → Fp2 × Int) (aF uF : Fp2 → Fp2 → Fp2) (cF : Fp2 → Fp2) (pF : Fp2 → List UInt64 → Fp2) (P : Fp) (x y z : Fp2) : endT (field2E b mF iF aF uF cF pF P) oB 300 Try.f11 (flat (codeOf Try.f11)) (startSt Try.f11 [vF2 x, vF2 y, vF2 z] []) = field2_run_T ((b)) ((mF x)) ((mF y)) ((mF z)) ((fp2Eq (uF (aF x y) z) (aF (uF x z) (uF y z)))) ((fp2Eq (uF x (uF y z)) (uF (uF x y) z))) ((fp2Eq (cF (uF x y)) (uF (cF x) (cF y)))) ((fp2Eq (uF x y) (uF y x))) ((fp2Eq (pF x [P.l0, P.l1, P.l2, P.l3, P.l4, P.l5]) (cF x))) ((fp2Eq (x) (zeroFp2))) (((iF x).snd == 7)) (((iF x).snd == 0)) ((fp2Eq (uF x (iF x).fst) (oneFp2))) := by kernel_rfl

end Go.Proofs.Ytehhcpopfgieeaa
