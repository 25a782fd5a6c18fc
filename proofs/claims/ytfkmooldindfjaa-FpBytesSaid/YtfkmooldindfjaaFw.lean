/- The base field's statements: FpAll, what it computes. -/
import Derived.Test.YtfkmooldindfjaaFv
set_option linter.unusedSimpArgs false
set_option linter.unusedVariables false
namespace Go.Proofs.Ytfkmooldindfjaa
open Go.RowKit

abbrev Krest (F : List UInt64 → List UInt64 → List UInt64 × Int) : Contract := K2 aL aLm rLI F
abbrev Ktimes (F : List UInt64 → List UInt64 → List UInt64) : Contract := K2 aLt aLt rL F
noncomputable abbrev lrestE (rF' : List UInt64 → List UInt64 → List UInt64 × Int) (m : Fp) : Env := Ens [(58, Krest rF'), (34, K0 rSu m)] [58, 34]
theorem lrest_run (rF' : List UInt64 → List UInt64 → List UInt64 × Int) (m : Fp) (a : List UInt64) : endT (lrestE rF' m) oF 100 Try.f30 (flat (codeOf Try.f30)) (startSt Try.f30 [iL.av 0 a] [inHE eU64 a]) =
  (.vc ((0 + a.length ≤ a.length ∧ a.length < 1125899906842624 ∧ 0 = 0 ∧ 1 = 1) ∧ little [m.l0, m.l1, m.l2, m.l3, m.l4, m.l5])
    (.vc (0 + (rF' (List.take a.length (List.drop 0 a)) [m.l0, m.l1, m.l2, m.l3, m.l4, m.l5]).fst.length ≤ (rF' (List.take a.length (List.drop 0 a)) [m.l0, m.l1, m.l2, m.l3, m.l4, m.l5]).fst.length)
      (.leaf (some (({ l0 := pickC (Nat.blt 0 (rF' (List.take a.length (List.drop 0 a)) [m.l0, m.l1, m.l2, m.l3, m.l4, m.l5]).fst.length) ((List.take (rF' (List.take a.length (List.drop 0 a)) [m.l0, m.l1, m.l2, m.l3, m.l4, m.l5]).fst.length (List.drop 0 (rF' (List.take a.length (List.drop 0 a)) [m.l0, m.l1, m.l2, m.l3, m.l4, m.l5]).fst)).getD 0 0) (UInt64.ofNat 0), l1 := pickC (Nat.blt 1 (rF' (List.take a.length (List.drop 0 a)) [m.l0, m.l1, m.l2, m.l3, m.l4, m.l5]).fst.length) ((List.take (rF' (List.take a.length (List.drop 0 a)) [m.l0, m.l1, m.l2, m.l3, m.l4, m.l5]).fst.length (List.drop 0 (rF' (List.take a.length (List.drop 0 a)) [m.l0, m.l1, m.l2, m.l3, m.l4, m.l5]).fst)).getD 1 0) (UInt64.ofNat 0), l2 := pickC (Nat.blt 2 (rF' (List.take a.length (List.drop 0 a)) [m.l0, m.l1, m.l2, m.l3, m.l4, m.l5]).fst.length) ((List.take (rF' (List.take a.length (List.drop 0 a)) [m.l0, m.l1, m.l2, m.l3, m.l4, m.l5]).fst.length (List.drop 0 (rF' (List.take a.length (List.drop 0 a)) [m.l0, m.l1, m.l2, m.l3, m.l4, m.l5]).fst)).getD 2 0) (UInt64.ofNat 0), l3 := pickC (Nat.blt 3 (rF' (List.take a.length (List.drop 0 a)) [m.l0, m.l1, m.l2, m.l3, m.l4, m.l5]).fst.length) ((List.take (rF' (List.take a.length (List.drop 0 a)) [m.l0, m.l1, m.l2, m.l3, m.l4, m.l5]).fst.length (List.drop 0 (rF' (List.take a.length (List.drop 0 a)) [m.l0, m.l1, m.l2, m.l3, m.l4, m.l5]).fst)).getD 3 0) (UInt64.ofNat 0), l4 := pickC (Nat.blt 4 (rF' (List.take a.length (List.drop 0 a)) [m.l0, m.l1, m.l2, m.l3, m.l4, m.l5]).fst.length) ((List.take (rF' (List.take a.length (List.drop 0 a)) [m.l0, m.l1, m.l2, m.l3, m.l4, m.l5]).fst.length (List.drop 0 (rF' (List.take a.length (List.drop 0 a)) [m.l0, m.l1, m.l2, m.l3, m.l4, m.l5]).fst)).getD 4 0) (UInt64.ofNat 0), l5 := pickC (Nat.blt 5 (rF' (List.take a.length (List.drop 0 a)) [m.l0, m.l1, m.l2, m.l3, m.l4, m.l5]).fst.length) ((List.take (rF' (List.take a.length (List.drop 0 a)) [m.l0, m.l1, m.l2, m.l3, m.l4, m.l5]).fst.length (List.drop 0 (rF' (List.take a.length (List.drop 0 a)) [m.l0, m.l1, m.l2, m.l3, m.l4, m.l5]).fst)).getD 5 0) (UInt64.ofNat 0) }, .t)))))) := by kernel_rfl

abbrev Kr (F : List UInt64 → Fp) : Contract := K1 aL oF.res F
noncomputable abbrev lallE (b : Bool) (mF pF : Fp → Bool) (a1 a2 s1 s2 : Fp → Fp → Fp) (n1 n2 : Fp → Fp) (m1 : Fp → Fp → Fp) (rF' : List UInt64 → Fp) (tF : List UInt64 → List UInt64 → List UInt64) (oF' : UInt64 → Fp) (g1 g2 : Fp → Bool) (q1 q2 : Fp) (cF : List UInt64 → List UInt64 → Int) : Env :=
  Ens [(9, Kb b), (24, Kfb mF), (10, Kfb pF), (25, Kff a1), (26, Kff a2), (27, Kff s1), (28, Kff s2), (18, Kf n1), (29, Kf n2), (17, Kff m1), (30, Kr rF'), (31, Ktimes tF), (19, Kof oF'), (20, Kfb g1), (32, Kfb g2), (22, K0 (rS 24) q1), (34, K0 rSu q2), (33, K2 aLc aLc kInt.rs.res cF)]
    [31, 22, 34]
def lall_run_T (c0 c1 c2 c3 c4 c5 c6 c7 c8 c9 c10 c11 c12 : Bool) (p0 p1 p2 : Prop) : Tree (Option (Bool × Pr)) :=
  (.br (!c0)
    (.leaf (some (false, .t)))
    (.br (!c1)
      (.br c2
        (.leaf (some (c3, .t)))
        (.leaf (some (false, .t))))
      (.br (!c4)
        (.br c2
          (.leaf (some (c3, .t)))
          (.leaf (some (false, .t))))
        (.br c5
          (.br c6
            (.br c7
              (.vc p0
                (.vc p1
                  (.br c8
                    (.br c9
                      (.br c10
                        (.br c11
                          (.vc p2
                            (.leaf (some (c12, .t))))
                          (.leaf (some (false, .t))))
                        (.leaf (some (false, .t))))
                      (.leaf (some (false, .t))))
                    (.leaf (some (false, .t))))))
              (.leaf (some (false, .t))))
            (.leaf (some (false, .t))))
          (.leaf (some (false, .t)))))))
theorem lall_run (b : Bool) (mF pF : Fp → Bool) (a1 a2 s1 s2 : Fp → Fp → Fp) (n1 n2 : Fp → Fp) (m1 : Fp → Fp → Fp) (rF' : List UInt64 → Fp) (tF : List UInt64 → List UInt64 → List UInt64) (oF' : UInt64 → Fp) (g1 g2 : Fp → Bool) (q1 q2 : Fp) (cF : List UInt64 → List UInt64 → Int) (x y : Fp) (n : UInt64) : endT (lallE b mF pF a1 a2 s1 s2 n1 n2 m1 rF' tF oF' g1 g2 q1 q2 cF) oB 300 Try.f6 (flat (codeOf Try.f6)) (startSt Try.f6 [vF x, vF y, vU n] []) = lall_run_T ((b)) ((pF x)) ((mF x == pF x)) ((mF y == pF y)) ((pF y)) ((fpEq (a1 x y) (a2 x y))) ((fpEq (s1 x y) (s2 x y))) ((fpEq (n1 x) (n2 x))) ((fpEq (m1 x y) (rF' (List.take (tF [x.l0, x.l1, x.l2, x.l3, x.l4, x.l5] [y.l0, y.l1, y.l2, y.l3, y.l4, y.l5]).length (List.drop 0 (tF [x.l0, x.l1, x.l2, x.l3, x.l4, x.l5] [y.l0, y.l1, y.l2, y.l3, y.l4, y.l5])))))) ((fpEq (oF' n) (⟨n, UInt64.ofNat 0, UInt64.ofNat 0, UInt64.ofNat 0, UInt64.ofNat 0, UInt64.ofNat 0⟩ : Fp))) ((g1 x == g2 x)) ((mF x)) ((cF [q1.l0, q1.l1, q1.l2, q1.l3, q1.l4, q1.l5] [q2.l0, q2.l1, q2.l2, q2.l3, q2.l4, q2.l5] == 0)) (tiny [x.l0, x.l1, x.l2, x.l3, x.l4, x.l5] ∧ tiny [y.l0, y.l1, y.l2, y.l3, y.l4, y.l5]) (0 + (tF [x.l0, x.l1, x.l2, x.l3, x.l4, x.l5] [y.l0, y.l1, y.l2, y.l3, y.l4, y.l5]).length ≤ (tF [x.l0, x.l1, x.l2, x.l3, x.l4, x.l5] [y.l0, y.l1, y.l2, y.l3, y.l4, y.l5]).length ∧ (tF [x.l0, x.l1, x.l2, x.l3, x.l4, x.l5] [y.l0, y.l1, y.l2, y.l3, y.l4, y.l5]).length < 1125899906842624 ∧ 0 = 0 ∧ 1 = 1) (short [q1.l0, q1.l1, q1.l2, q1.l3, q1.l4, q1.l5] ∧ short [q2.l0, q2.l1, q2.l2, q2.l3, q2.l4, q2.l5]) := by kernel_rfl

theorem restF_len (a m : List UInt64) : (restF a m).1.length < 1125899906842624 → 0 + (restF a m).1.length ≤ (restF a m).1.length := fun _ => by omega

def lrestF (a : List UInt64) : Fp := ofL (restF a pLimbs.list).1
theorem lrest_ok : CallOk Try.prog 30 (Kr lrestF) :=
  G1 (E := lrestE restF pLimbs) Try.func30 (c := codeOf Try.f30) (by kernel_rfl) (bodied Try.func30 (by kernel_rfl) (by kernel_rfl)) iL oF lrestF fun a ha => by
    have ha : a.length < 1125899906842624 := ha
    refine DoesL.ends (Ens_ok (.cons rest_ok (.cons refP_ok .nil))) 100 (lrest_run restF pLimbs a) ⟨⟨okL' ha, ?_⟩, fun _ => ⟨by omega, fun _ => reads_t ?_⟩⟩
    · show pLimbs.list.length < _; rw [pList_len]; decide
    · rw [pick_at, pick_at, pick_at, pick_at, pick_at, pick_at, whole]
      rfl

theorem times_len (a b : List UInt64) : (timesF a b).length ≤ a.length + b.length + 1 := by
  have h := cutF_len (packAt (accAt (rhvsF a) (rhvsF b) (rhvsF a).length) (((rhvsF a).length + (rhvsF b).length + 2) / 2))
  rw [packAt_len] at h
  have h2 : (timesF a b).length ≤ ((rhvsF a).length + (rhvsF b).length + 2) / 2 := h
  rw [rhvs_len, rhvs_len] at h2
  omega

theorem lall_law : ∀ (p0 p1 p2 : Prop) (c1 c2 c3 c4 c5 c6 c7 c8 c9 c10 c11 c12 : Bool), (c2 && c3 && (!c1 || !c4 || (c5 && c6 && c7 && c8 && c9 && c10 && c11 && c12))) = true → (lall_run_T true c1 c2 c3 c4 c5 c6 c7 c8 c9 c10 c11 c12 p0 p1 p2).evalV = true := fun p0 p1 p2 => of_decide_eq_true (by kernel_rfl)
theorem lall_vc {p0 p1 p2 : Prop} (h0 : p0) (h1 : p1) (h2 : p2) (c0 c1 c2 c3 c4 c5 c6 c7 c8 c9 c10 c11 c12 : Bool) : (lall_run_T c0 c1 c2 c3 c4 c5 c6 c7 c8 c9 c10 c11 c12 p0 p1 p2).vcAll := by
  simp only [lall_run_T, Tree.vcAll, h0, h1, h2, implies_true, and_true]

def lallG (mF pF : Fp → Bool) (a1 a2 s1 s2 : Fp → Fp → Fp) (n1 n2 : Fp → Fp) (m1 : Fp → Fp → Fp) (rF' : List UInt64 → Fp) (tF : List UInt64 → List UInt64 → List UInt64) (oF' : UInt64 → Fp) (g1 g2 : Fp → Bool) (q1 q2 : Fp) (cF : List UInt64 → List UInt64 → Int) (x y : Fp) (n : UInt64) : Bool :=
  (mF x == pF x) && (mF y == pF y) && (!pF x || !pF y || (fpEq (a1 x y) (a2 x y) && fpEq (s1 x y) (s2 x y) && fpEq (n1 x) (n2 x) && fpEq (m1 x y) (rF' (tF x.list y.list)) && fpEq (oF' n) ⟨n, 0, 0, 0, 0, 0⟩ && (g1 x == g2 x) && mF x && (cF q1.list q2.list == 0)))
theorem lall_gives (hb : CallOk Try.prog 9 (Kb true))
    (h : ∀ x y n, lallG mayF mayPF addF addPF subF subPF negF negPF mulF lrestF timesF ofF greatF greatPF pLimbs pLimbs cmpR x y n = true)
    (x y : Fp) (n : UInt64) (w : World) : Gives Try.prog 6 #[rowV x, rowV y, .int .u64 (n.toNat : Int)] w kBool.rs.res true :=
  G3g (E := lallE true mayF mayPF addF addPF subF subPF negF negPF mulF lrestF timesF ofF greatF greatPF pLimbs pLimbs cmpR) Try.func6 (c := codeOf Try.f6) (by kernel_rfl) (kRow Fp).inp (kRow Fp).inp kU64.inp oB true (x := x) (y := y) (z := n) rfl rfl rfl fun _ _ _ => by
    have k0 : tiny x.list ∧ tiny y.list := ⟨by show x.list.length < _; rw [fp_short]; decide, by show y.list.length < _; rw [fp_short]; decide⟩
    have k1 := okL' (xs := timesF x.list y.list) (Nat.lt_of_le_of_lt (times_len x.list y.list) (by rw [fp_short, fp_short]; decide))
    have k2 : short pLimbs.list ∧ short pLimbs.list := ⟨by show pLimbs.list.length < _; rw [pList_len]; decide, by show pLimbs.list.length < _; rw [pList_len]; decide⟩
    refine DoesL.ends (Ens_ok (.cons hb (.cons may_ok (.cons mayP_ok (.cons add_ok (.cons addP_ok (.cons sub_ok (.cons subP_ok (.cons neg_ok (.cons negP_ok (.cons mul_ok (.cons lrest_ok (.cons times_ok (.cons of_ok (.cons great_ok (.cons greatP_ok (.cons P_ok (.cons refP_ok (.cons rcmp_ok .nil))))))))))))))))))) 300 (lall_run true mayF mayPF addF addPF subF subPF negF negPF mulF lrestF timesF ofF greatF greatPF pLimbs pLimbs cmpR x y n) (Tree.law_sat (lall_law _ _ _ _ _ _ _ _ _ _ _ _ _ _ _ ?_) (lall_vc k0 k1 k2 _ _ _ _ _ _ _ _ _ _ _ _ _))
    rw [whole]
    exact h x y n

end Go.Proofs.Ytfkmooldindfjaa
