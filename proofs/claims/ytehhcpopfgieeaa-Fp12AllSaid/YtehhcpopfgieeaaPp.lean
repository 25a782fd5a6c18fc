/- What the functions of the statements of layer 7 compute. -/
import Derived.Test.YtehhcpopfgieeaaPm
import Derived.Test.YtehhcpopfgieeaaFv
set_option linter.unusedSimpArgs false
set_option linter.unusedVariables false
namespace Go.Proofs.Ytehhcpopfgieeaa
open Go.RowKit

abbrev Kd12 : Kd Fp12 := kRow Fp12
abbrev Kt1 (F : Fp12 → Fp12) : Contract := K1 Kd12.arg Kd12.rs.res F
abbrev Kt2 (F : Fp12 → Fp12 → Fp12) : Contract := K2 Kd12.arg Kd12.arg Kd12.rs.res F
abbrev Ktb (F : Fp12 → Bool) : Contract := K1 Kd12.arg kBool.rs.res F
abbrev Kti (F : Fp12 → Fp12 × Int) : Contract := K1 Kd12.arg (Kd12.rs2 kInt).res F
abbrev Ktimes' (F : List UInt64 → List UInt64 → List UInt64) : Contract := K2 aLt aLt rL F

noncomputable abbrev all12E (b : Bool) (mF tF : Fp12 → Bool) (iF kF : Fp12 → Fp12 × Int) (a1 a2 s1 s2 m1 m2 : Fp12 → Fp12 → Fp12) (c1 c2 : Fp12 → Fp12) (pF qF : Fp12 → List UInt64 → Fp12) : Env := En [(45, K0 kBool.rs.res b), (46, Ktb mF), (55, Ktb tF), (52, Kti iF), (56, Kti kF), (50, Kt2 a1), (57, Kt2 a2), (58, Kt2 s1), (59, Kt2 s2), (51, Kt2 m1), (60, Kt2 m2), (53, Kt1 c1), (61, Kt1 c2), (49, Kraised pF), (62, Kraised qF)]
def all12_run_T (c0 c1 c2 c3 c4 c5 c6 c7 c8 c9 c10 c11 : Bool) : Tree (Option (Bool × Pr)) :=
  (.br (!c0)
    (.leaf (some (false, .t)))
    (.br (!c1)
      (.leaf (some (c2, .t)))
      (.br (!c3)
        (.leaf (some (c2, .t)))
        (.br c4
          (.br c5
            (.br c6
              (.br c7
                (.br c8
                  (.br c9
                    (.br c10
                      (.leaf (some (c11, .t)))
                      (.leaf (some (false, .t))))
                    (.leaf (some (false, .t))))
                  (.leaf (some (false, .t))))
                (.leaf (some (false, .t))))
              (.leaf (some (false, .t))))
            (.leaf (some (false, .t))))
          (.leaf (some (false, .t)))))))
theorem all12_run (b : Bool) (mF tF : Fp12 → Bool) (iF kF : Fp12 → Fp12 × Int) (a1 a2 s1 s2 m1 m2 : Fp12 → Fp12 → Fp12) (c1 c2 : Fp12 → Fp12) (pF qF : Fp12 → List UInt64 → Fp12) (x y : Fp12) (e : UInt64) : endT (all12E b mF tF iF kF a1 a2 s1 s2 m1 m2 c1 c2 pF qF) oB 300 Try.f9 (flat (codeOf Try.f9)) (startSt Try.f9 [vF12 x, vF12 y, vU e] []) = all12_run_T ((b)) ((mF x)) ((tF x == mF x)) ((mF y)) ((fp12Eq (a1 x y) (a2 x y))) ((fp12Eq (s1 x y) (s2 x y))) ((fp12Eq (m1 x y) (m2 x y))) ((fp12Eq (c1 x) (c2 x))) ((tF x)) ((fp12Eq ((iF x).fst) ((kF x).fst))) (((iF x).snd == (kF x).snd)) ((fp12Eq (pF x [e]) (qF x [e]))) := by kernel_rfl

noncomputable abbrev field12E (b : Bool) (mF : Fp12 → Bool) (iF : Fp12 → Fp12 × Int) (aF uF : Fp12 → Fp12 → Fp12) (cF : Fp12 → Fp12) (pF : Fp12 → List UInt64 → Fp12) (one : Fp12) : Env := En [(45, K0 kBool.rs.res b), (46, Ktb mF), (52, Kti iF), (50, Kt2 aF), (51, Kt2 uF), (53, Kt1 cF), (49, Kraised pF), (54, K0 Kd12.rs.res one)]
def field12_run_T (c0 c1 c2 c3 c4 c5 c6 c7 c8 c9 c10 c11 c12 c13 : Bool) : Tree (Option (Bool × Pr)) :=
  (.br (!c0)
    (.leaf (some (false, .t)))
    (.br (!c1)
      (.leaf (some (true, .t)))
      (.br (!c2)
        (.leaf (some (true, .t)))
        (.br (!c3)
          (.leaf (some (true, .t)))
          (.br c4
            (.br c5
              (.br c6
                (.br c7
                  (.br c8
                    (.br c9
                      (.br c10
                        (.br c11
                          (.leaf (some (true, .t)))
                          (.br c12
                            (.leaf (some (c13, .t)))
                            (.leaf (some (false, .t)))))
                        (.br c12
                          (.leaf (some (c13, .t)))
                          (.leaf (some (false, .t)))))
                      (.leaf (some (false, .t))))
                    (.leaf (some (false, .t))))
                  (.leaf (some (false, .t))))
                (.br c7
                  (.leaf (some (false, .t)))
                  (.leaf (some (false, .t)))))
              (.br c6
                (.leaf (some (false, .t)))
                (.leaf (some (false, .t)))))
            (.br c6
              (.leaf (some (false, .t)))
              (.leaf (some (false, .t)))))))))
theorem field12_run (b : Bool) (mF : Fp12 → Bool) (iF : Fp12 → Fp12 × Int) (aF uF : Fp12 → Fp12 → Fp12) (cF : Fp12 → Fp12) (pF : Fp12 → List UInt64 → Fp12) (one : Fp12) (x y z : Fp12) (d e : UInt64) : endT (field12E b mF iF aF uF cF pF one) oB 300 Try.f8 (flat (codeOf Try.f8)) (startSt Try.f8 [vF12 x, vF12 y, vF12 z, vU d, vU e] []) = field12_run_T ((b)) ((mF x)) ((mF y)) ((mF z)) ((fp12Eq (uF (aF x y) z) (aF (uF x z) (uF y z)))) ((fp12Eq (uF x (uF y z)) (uF (uF x y) z))) ((fp12Eq (cF (uF x y)) (uF (cF x) (cF y)))) ((fp12Eq (uF x y) (uF y x))) ((fp12Eq (cF (cF x)) (x))) ((fp12Eq (uF (pF x [shrU d 1]) (pF x [shrU e 1])) (pF x [shrU d 1 + shrU e 1]))) ((fp12Eq (x) (zeroFp12))) (((iF x).snd == 7)) (((iF x).snd == 0)) ((fp12Eq (uF x (iF x).fst) (one))) := by kernel_rfl

noncomputable abbrev maps12E (b : Bool) (mF : Fp12 → Bool) (m2 : Fp2 → Bool) (tF : List UInt64 → List UInt64 → List UInt64) (P : Fp) (pF : Fp12 → List UInt64 → Fp12) (aF uF : Fp12 → Fp12 → Fp12) : Env := Ens [(45, K0 kBool.rs.res b), (46, Ktb mF), (28, K1 (kRow Fp2).arg kBool.rs.res m2), (47, Ktimes' tF), (48, K0 rSu P), (49, Kraised pF), (50, Kt2 aF), (51, Kt2 uF)] [47, 48]
def maps12_run_T (c0 c1 c2 c3 c4 c5 c6 : Bool) (p0 p1 : Prop) : Tree (Option (Bool × Pr)) :=
  (.br (!c0)
    (.leaf (some (false, .t)))
    (.br (!c1)
      (.leaf (some (true, .t)))
      (.br (!c2)
        (.leaf (some (true, .t)))
        (.br (!c3)
          (.leaf (some (true, .t)))
          (.vc p0
            (.vc p1
              (.vc p1
                (.vc p1
                  (.br c4
                    (.vc p1
                      (.br c5
                        (.vc p1
                          (.leaf (some (c6, .t))))
                        (.leaf (some (false, .t)))))
                    (.leaf (some (false, .t))))))))))))
theorem maps12_run (b : Bool) (mF : Fp12 → Bool) (m2 : Fp2 → Bool) (tF : List UInt64 → List UInt64 → List UInt64) (P : Fp) (pF : Fp12 → List UInt64 → Fp12) (aF uF : Fp12 → Fp12 → Fp12) (x y : Fp12) (c : Fp2) : endT (maps12E b mF m2 tF P pF aF uF) oB 300 Try.f7 (flat (codeOf Try.f7)) (startSt Try.f7 [vF12 x, vF12 y, vF2 c] []) = maps12_run_T ((b)) ((mF x)) ((mF y)) ((m2 c)) ((fp12Eq (pF (aF x y) (List.take (tF [P.l0, P.l1, P.l2, P.l3, P.l4, P.l5] [P.l0, P.l1, P.l2, P.l3, P.l4, P.l5]).length (List.drop 0 (tF [P.l0, P.l1, P.l2, P.l3, P.l4, P.l5] [P.l0, P.l1, P.l2, P.l3, P.l4, P.l5])))) (aF (pF x (List.take (tF [P.l0, P.l1, P.l2, P.l3, P.l4, P.l5] [P.l0, P.l1, P.l2, P.l3, P.l4, P.l5]).length (List.drop 0 (tF [P.l0, P.l1, P.l2, P.l3, P.l4, P.l5] [P.l0, P.l1, P.l2, P.l3, P.l4, P.l5])))) (pF y (List.take (tF [P.l0, P.l1, P.l2, P.l3, P.l4, P.l5] [P.l0, P.l1, P.l2, P.l3, P.l4, P.l5]).length (List.drop 0 (tF [P.l0, P.l1, P.l2, P.l3, P.l4, P.l5] [P.l0, P.l1, P.l2, P.l3, P.l4, P.l5]))))))) ((fp12Eq (pF (uF x y) (List.take (tF [P.l0, P.l1, P.l2, P.l3, P.l4, P.l5] [P.l0, P.l1, P.l2, P.l3, P.l4, P.l5]).length (List.drop 0 (tF [P.l0, P.l1, P.l2, P.l3, P.l4, P.l5] [P.l0, P.l1, P.l2, P.l3, P.l4, P.l5])))) (uF (pF x (List.take (tF [P.l0, P.l1, P.l2, P.l3, P.l4, P.l5] [P.l0, P.l1, P.l2, P.l3, P.l4, P.l5]).length (List.drop 0 (tF [P.l0, P.l1, P.l2, P.l3, P.l4, P.l5] [P.l0, P.l1, P.l2, P.l3, P.l4, P.l5])))) (pF y (List.take (tF [P.l0, P.l1, P.l2, P.l3, P.l4, P.l5] [P.l0, P.l1, P.l2, P.l3, P.l4, P.l5]).length (List.drop 0 (tF [P.l0, P.l1, P.l2, P.l3, P.l4, P.l5] [P.l0, P.l1, P.l2, P.l3, P.l4, P.l5]))))))) ((fp12Eq (pF { c0 := { c0 := c, c1 := zeroFp2, c2 := zeroFp2 }, c1 := zeroFp6 } (List.take (tF [P.l0, P.l1, P.l2, P.l3, P.l4, P.l5] [P.l0, P.l1, P.l2, P.l3, P.l4, P.l5]).length (List.drop 0 (tF [P.l0, P.l1, P.l2, P.l3, P.l4, P.l5] [P.l0, P.l1, P.l2, P.l3, P.l4, P.l5])))) ({ c0 := { c0 := c, c1 := zeroFp2, c2 := zeroFp2 }, c1 := zeroFp6 }))) (tiny [P.l0, P.l1, P.l2, P.l3, P.l4, P.l5] ∧ tiny [P.l0, P.l1, P.l2, P.l3, P.l4, P.l5]) (0 + (tF [P.l0, P.l1, P.l2, P.l3, P.l4, P.l5] [P.l0, P.l1, P.l2, P.l3, P.l4, P.l5]).length ≤ (tF [P.l0, P.l1, P.l2, P.l3, P.l4, P.l5] [P.l0, P.l1, P.l2, P.l3, P.l4, P.l5]).length ∧ (tF [P.l0, P.l1, P.l2, P.l3, P.l4, P.l5] [P.l0, P.l1, P.l2, P.l3, P.l4, P.l5]).length < 1125899906842624 ∧ 0 = 0 ∧ 1 = 1) := by kernel_rfl

end Go.Proofs.Ytehhcpopfgieeaa
