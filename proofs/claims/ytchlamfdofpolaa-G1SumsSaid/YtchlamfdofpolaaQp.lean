/- G1Sums: what its function computes. -/

import Derived.Test.YtchlamfdofpolaaQn
set_option linter.unusedSimpArgs false
set_option linter.unusedVariables false
namespace Go.Proofs.Ytchlamfdofpolaa
open Go.RowKit

noncomputable abbrev ss1C : List Code := flat (codeOf Try.f8)
noncomputable abbrev ss1B (k : Nat) : Code := loopAt Try.f8 k
noncomputable abbrev ss1E (b : Bool) (mF : Fr → Bool) (g : Pg1) (tF : Pg1 → Fr → Pg1) (aF uF : Fr → Fr → Fr) (sF : List Pg1 → List Fr → Pg1) : Env := En [(15, K0 kBool.rs.res b), (16, Krb mF), (26, K0 kg1.rs.res g), (23, K2 kg1.arg (kRow Fr).arg kg1.rs.res tF), (31, Kr2 aF), (32, Kr2 uF), (35, K2 ((argRw .g1).such few) (argRw .fr) kg1.rs.res sF)]
def ownPts1 (l : List Pg1) : HE := .live ⟨true, 30, 13, .rows .g1 l, false⟩
def ss1A (ks ms : List Fr) (z : Int) (c : Nat) (pl : List Pg1) : St := mkSt 74 [(0, rwV .fr 0 ks), (1, rwV .fr 1 ms), (5, .one (.c (.slc 2 0 c 13 (.of 0) false))), (6, vI z)] [rwHE .fr ks, rwHE .fr ms, ownPts1 pl]
def ss1S (ks ms : List Fr) (z : Int) (c : Nat) (pl : List Pg1) (s : Fr) : St := mkSt 74 [(0, rwV .fr 0 ks), (1, rwV .fr 1 ms), (5, .one (.c (.slc 2 0 c 13 (.of 0) false))), (7, ptrV 3), (8, vI z)] [rwHE .fr ks, rwHE .fr ms, ownPts1 pl, own 24 (Row.cs s)]
theorem ss1_start (b : Bool) (mF : Fr → Bool) (g : Pg1) (tF : Pg1 → Fr → Pg1) (aF uF : Fr → Fr → Fr) (sF : List Pg1 → List Fr → Pg1) (ks ms : List Fr) : segT (ss1E b mF g tF aF uF sF) oB 300 Try.f8 (ss1C.take 7) (startSt Try.f8 [rwV .fr 0 ks, rwV .fr 1 ms] [rwHE .fr ks, rwHE .fr ms]) [0, 1, 5, 6] [0, 1] [(0, .as), (1, .as), (5, .nilE 2 13), (6, .int)] [.as, .as] [(30, .rows .g1)] =
  (.br (!(b))
    (.leaf (.inr (some ((false, .t)))))
    (.vc (0 + ks.length * 4 ≤ (rowsC RK.fr ks).length ∧ 0 < 4)
      (.br (decide ((↑ks.length : Int) > 5))
        (.leaf (.inr (some ((true, .t)))))
        (.vc (0 + ms.length * 4 ≤ (rowsC RK.fr ms).length ∧ 0 < 4)
          (.br (decide ((↑ms.length : Int) > 6))
            (.leaf (.inr (some ((true, .t)))))
            (.leaf (.inl (mkSt 74 [(0, .one (.c (.slc 0 0 (ks.length) 4 (.of 0) false))), (1, .one (.c (.slc 1 0 (ms.length) 4 (.of 0) false))), (5, .one (.c (.slc 2 0 0 13 (.of 0) false))), (6, .one (.c (.int .i64 0)))] [.live ⟨false, 0, 4, (.rows .fr (ks : List Fr)), false⟩, .live ⟨false, 0, 4, (.rows .fr (ms : List Fr)), false⟩, .live ⟨true, 30, 13, (.rows .g1 ([] : List Pg1)), false⟩])))))))) := by kernel_rfl
theorem ss1_round1 (b : Bool) (mF : Fr → Bool) (g : Pg1) (tF : Pg1 → Fr → Pg1) (aF uF : Fr → Fr → Fr) (sF : List Pg1 → List Fr → Pg1) (ks ms : List Fr) (z : Int) (c : Nat) (pl : List Pg1) : iterP (ss1E b mF g tF aF uF sF) oB 300 Try.f8 [ss1B 0] (ss1A ks ms z c pl) (following [0, 1, 5, 6] [0, 1] [5]) =
  (.vc (0 + ks.length * 4 ≤ (rowsC RK.fr ks).length ∧ 0 < 4)
    (.br (decide (z < (↑ks.length : Int)))
      (.vc ((0 ≤ z ∧ z < (↑ks.length : Int)) ∧ 0 + ks.length * 4 ≤ (rowsC RK.fr ks).length ∧ 0 < 4 ∧ 0 = 0)
        (.vc (0 + z.toNat < ks.length)
          (.br (!(mF (ks.getD (0 + z.toNat) { l0 := 0, l1 := 0, l2 := 0, l3 := 0 })))
            (.leaf (.inr (some ((true, .t)))))
            (.vc ((0 ≤ z ∧ z < (↑ks.length : Int)) ∧ 0 + ks.length * 4 ≤ (rowsC RK.fr ks).length ∧ 0 < 4 ∧ 0 = 0)
              (.vc (0 + z.toNat < ks.length)
                (.vc ((0 + c * 13 ≤ (rowsC RK.g1 pl).length ∧ 0 = 0) ∧ c + 1 ≤ 9223372036854775807 ∧ (c + 1) * 104 ≤ 140737488355328)
                  (.leaf (.inl ((.normal, mkSt 74 [(0, .one (.c (.slc 0 0 (ks.length) 4 (.of 0) false))), (1, .one (.c (.slc 1 0 (ms.length) 4 (.of 0) false))), (5, .one (.c (.slc 2 0 (c + 1) 13 (.of 0) false))), (6, .one (.c (.int .i64 (IntKind.i64.wrap (z + 1)))))] [.live ⟨false, 0, 4, (.rows .fr (ks : List Fr)), false⟩, .live ⟨false, 0, 4, (.rows .fr (ms : List Fr)), false⟩, .live ⟨true, 30, 13, (.rows .g1 (List.take (mulNn c (13 / 13)) (List.drop 0 pl) ++ [tF g (ks.getD (0 + z.toNat) { l0 := 0, l1 := 0, l2 := 0, l3 := 0 })] : List Pg1)), false⟩]))))))))))
      (.leaf (.inl ((.exit 0, mkSt 74 [(0, .one (.c (.slc 0 0 (ks.length) 4 (.of 0) false))), (1, .one (.c (.slc 1 0 (ms.length) 4 (.of 0) false))), (5, .one (.c (.slc 2 0 (c) 13 (.of 0) false))), (6, .one (.c (.int .i64 (z))))] [.live ⟨false, 0, 4, (.rows .fr (ks : List Fr)), false⟩, .live ⟨false, 0, 4, (.rows .fr (ms : List Fr)), false⟩, .live ⟨true, 30, 13, (.rows .g1 (pl : List Pg1)), false⟩])))))) := by kernel_rfl
theorem ss1_mid (b : Bool) (mF : Fr → Bool) (g : Pg1) (tF : Pg1 → Fr → Pg1) (aF uF : Fr → Fr → Fr) (sF : List Pg1 → List Fr → Pg1) (ks ms : List Fr) (z : Int) (c : Nat) (pl : List Pg1) : stageG (ss1E b mF g tF aF uF sF) 300 ((ss1C.drop 8).take 2) (ss1A ks ms z c pl) [0, 1, 5, 7, 8] [0, 1, 2, 3] [(0, .as), (1, .as), (5, .as), (7, .as), (8, .int)] [.as, .as, .as, .one .fr] [] =
  (.leaf (mkSt 74 [(0, .one (.c (.slc 0 0 (ks.length) 4 (.of 0) false))), (1, .one (.c (.slc 1 0 (ms.length) 4 (.of 0) false))), (5, .one (.c (.slc 2 0 (c) 13 (.of 0) false))), (7, .one (.c (.ptr 3 0))), (8, .one (.c (.int .i64 0)))] [.live ⟨false, 0, 4, (.rows .fr (ks : List Fr)), false⟩, .live ⟨false, 0, 4, (.rows .fr (ms : List Fr)), false⟩, .live ⟨true, 30, 13, (.rows .g1 (pl : List Pg1)), false⟩, .live ⟨true, 24, 0, (.row [(.u64 (UInt64.ofNat 0)), (.u64 (UInt64.ofNat 0)), (.u64 (UInt64.ofNat 0)), (.u64 (UInt64.ofNat 0))]), false⟩])) := by kernel_rfl
theorem ss1_round2 (b : Bool) (mF : Fr → Bool) (g : Pg1) (tF : Pg1 → Fr → Pg1) (aF uF : Fr → Fr → Fr) (sF : List Pg1 → List Fr → Pg1) (ks ms : List Fr) (z : Int) (c : Nat) (pl : List Pg1) (s : Fr) : iterP (ss1E b mF g tF aF uF sF) oB 300 Try.f8 [ss1B 1] (ss1S ks ms z c pl s) (fun _ => some ([0, 1, 5, 7, 8], [0, 1, 2, 3])) =
  (.vc (0 + ms.length * 4 ≤ (rowsC RK.fr ms).length ∧ 0 < 4)
    (.br (decide (z < (↑ms.length : Int)))
      (.vc ((0 ≤ z ∧ z < (↑ms.length : Int)) ∧ 0 + ms.length * 4 ≤ (rowsC RK.fr ms).length ∧ 0 < 4 ∧ 0 = 0)
        (.vc (0 + z.toNat < ms.length)
          (.br (!(mF (ms.getD (0 + z.toNat) { l0 := 0, l1 := 0, l2 := 0, l3 := 0 })))
            (.leaf (.inr (some ((true, .t)))))
            (.vc (0 + ks.length * 4 ≤ (rowsC RK.fr ks).length ∧ 0 < 4)
              (.br (decide (z < (↑ks.length : Int)))
                (.vc ((0 ≤ z ∧ z < (↑ks.length : Int)) ∧ 0 + ks.length * 4 ≤ (rowsC RK.fr ks).length ∧ 0 < 4 ∧ 0 = 0)
                  (.vc (0 + z.toNat < ks.length)
                    (.vc ((0 ≤ z ∧ z < (↑ms.length : Int)) ∧ 0 + ms.length * 4 ≤ (rowsC RK.fr ms).length ∧ 0 < 4 ∧ 0 = 0)
                      (.vc (0 + z.toNat < ms.length)
                        (.leaf (.inl ((.normal, mkSt 74 [(0, .one (.c (.slc 0 0 (ks.length) 4 (.of 0) false))), (1, .one (.c (.slc 1 0 (ms.length) 4 (.of 0) false))), (5, .one (.c (.slc 2 0 (c) 13 (.of 0) false))), (7, .one (.c (.ptr 3 0))), (8, .one (.c (.int .i64 (IntKind.i64.wrap (z + 1)))))] [.live ⟨false, 0, 4, (.rows .fr (ks : List Fr)), false⟩, .live ⟨false, 0, 4, (.rows .fr (ms : List Fr)), false⟩, .live ⟨true, 30, 13, (.rows .g1 (pl : List Pg1)), false⟩, .live ⟨true, 24, 0, (.row (Row.cs (aF s (uF (ks.getD (0 + z.toNat) { l0 := 0, l1 := 0, l2 := 0, l3 := 0 }) (ms.getD (0 + z.toNat) { l0 := 0, l1 := 0, l2 := 0, l3 := 0 })) : Fr))), false⟩]))))))))
                (.leaf (.inl ((.normal, mkSt 74 [(0, .one (.c (.slc 0 0 (ks.length) 4 (.of 0) false))), (1, .one (.c (.slc 1 0 (ms.length) 4 (.of 0) false))), (5, .one (.c (.slc 2 0 (c) 13 (.of 0) false))), (7, .one (.c (.ptr 3 0))), (8, .one (.c (.int .i64 (IntKind.i64.wrap (z + 1)))))] [.live ⟨false, 0, 4, (.rows .fr (ks : List Fr)), false⟩, .live ⟨false, 0, 4, (.rows .fr (ms : List Fr)), false⟩, .live ⟨true, 30, 13, (.rows .g1 (pl : List Pg1)), false⟩, .live ⟨true, 24, 0, (.row (Row.cs (s : Fr))), false⟩])))))))))
      (.leaf (.inl ((.exit 2, mkSt 74 [(0, .one (.c (.slc 0 0 (ks.length) 4 (.of 0) false))), (1, .one (.c (.slc 1 0 (ms.length) 4 (.of 0) false))), (5, .one (.c (.slc 2 0 (c) 13 (.of 0) false))), (7, .one (.c (.ptr 3 0))), (8, .one (.c (.int .i64 (z))))] [.live ⟨false, 0, 4, (.rows .fr (ks : List Fr)), false⟩, .live ⟨false, 0, 4, (.rows .fr (ms : List Fr)), false⟩, .live ⟨true, 30, 13, (.rows .g1 (pl : List Pg1)), false⟩, .live ⟨true, 24, 0, (.row (Row.cs (s : Fr))), false⟩])))))) := by kernel_rfl
theorem ss1_end (b : Bool) (mF : Fr → Bool) (g : Pg1) (tF : Pg1 → Fr → Pg1) (aF uF : Fr → Fr → Fr) (sF : List Pg1 → List Fr → Pg1) (ks ms : List Fr) (z : Int) (c : Nat) (pl : List Pg1) (s : Fr) : endT (ss1E b mF g tF aF uF sF) oB 300 Try.f8 (ss1C.drop 11) (ss1S ks ms z c pl s) =
  (.vc (((0 + c * 13 ≤ (rowsC RK.g1 pl).length ∧ 0 = 0 ∧ c < 1125899906842624 ∧ 0 = 0 ∧ 13 = 13) ∧ few (List.take c (List.drop 0 pl))) ∧ 0 + ms.length * 4 ≤ (rowsC RK.fr ms).length ∧ 0 = 0 ∧ ms.length < 1125899906842624 ∧ 0 = 0 ∧ 4 = 4)
    (.leaf (some (((sF (List.take c (List.drop 0 pl)) (List.take ms.length (List.drop 0 ms))).x.l0 == (tF g s).x.l0 && ((sF (List.take c (List.drop 0 pl)) (List.take ms.length (List.drop 0 ms))).x.l1 == (tF g s).x.l1 && ((sF (List.take c (List.drop 0 pl)) (List.take ms.length (List.drop 0 ms))).x.l2 == (tF g s).x.l2 && ((sF (List.take c (List.drop 0 pl)) (List.take ms.length (List.drop 0 ms))).x.l3 == (tF g s).x.l3 && ((sF (List.take c (List.drop 0 pl)) (List.take ms.length (List.drop 0 ms))).x.l4 == (tF g s).x.l4 && ((sF (List.take c (List.drop 0 pl)) (List.take ms.length (List.drop 0 ms))).x.l5 == (tF g s).x.l5 && true))))) && ((sF (List.take c (List.drop 0 pl)) (List.take ms.length (List.drop 0 ms))).y.l0 == (tF g s).y.l0 && ((sF (List.take c (List.drop 0 pl)) (List.take ms.length (List.drop 0 ms))).y.l1 == (tF g s).y.l1 && ((sF (List.take c (List.drop 0 pl)) (List.take ms.length (List.drop 0 ms))).y.l2 == (tF g s).y.l2 && ((sF (List.take c (List.drop 0 pl)) (List.take ms.length (List.drop 0 ms))).y.l3 == (tF g s).y.l3 && ((sF (List.take c (List.drop 0 pl)) (List.take ms.length (List.drop 0 ms))).y.l4 == (tF g s).y.l4 && ((sF (List.take c (List.drop 0 pl)) (List.take ms.length (List.drop 0 ms))).y.l5 == (tF g s).y.l5 && true))))) && ((sF (List.take c (List.drop 0 pl)) (List.take ms.length (List.drop 0 ms))).inf == (tF g s).inf && true)), .t))))) := by kernel_rfl


def ssumF (aF uF : Fr → Fr → Fr) (ks ms : List Fr) : Nat → Fr
  | 0 => ⟨UInt64.ofNat 0, UInt64.ofNat 0, UInt64.ofNat 0, UInt64.ofNat 0⟩
  | j + 1 => if j < ks.length then aF (ssumF aF uF ks ms j) (uF (ks.getD j fr0) (ms.getD j fr0)) else ssumF aF uF ks ms j

theorem ss1_gives {mF : Fr → Bool} {g : Pg1} {tF : Pg1 → Fr → Pg1} {aF uF : Fr → Fr → Fr} {sF : List Pg1 → List Fr → Pg1} (hE : EnvOk (ss1E true mF g tF aF uF sF)) {w : World} {v u : Value} {ks ms : List Fr} (hv : RwIs .fr w v ks) (hu : RwIs .fr w u ms)
    (h : (∀ i, i < ks.length → mF (ks.getD i fr0) = true) → (∀ i, i < ms.length → mF (ms.getD i fr0) = true) → sF (ks.map (tF g)) ms = tF g (ssumF aF uF ks ms ms.length)) :
    Gives Try.prog 8 #[v, u] w kBool.rs.res true :=
  G2g (E := ss1E true mF g tF aF uF sF) Try.func8 (c := codeOf Try.f8) (by kernel_rfl) (inpRw .fr) (inpRw .fr) oB true hv hu (fun hk hm => by
    have hk : ks.length < topLen := hk
    have hm : ms.length < topLen := hm
    have h0 : topLen = 1125899906842624 := rfl
    refine DoesL.seg hE 300 7 _ _ _ _ _ (ss1_start true mF g tF aF uF sF ks ms) ⟨fun h1 => (by cases h1), fun _ => ⟨vcLenFr ks, fun _ => ⟨fun _ => ⟨.t, rfl, trivial⟩, fun h5 => ⟨vcLenFr ms, fun _ => ⟨fun _ => ⟨.t, rfl, trivial⟩, fun h6 => ?_⟩⟩⟩⟩⟩
    have h5 : ks.length ≤ 5 := by simp at h5; omega
    have h6 : ms.length ≤ 6 := by simp at h6; omega
    show DoesL _ _ (ss1A ks ms ((0 : Nat) : Int) 0 ((ks.take 0).map (tF g))) _
    refine DoesL.blockLoopR (B := ss1B 0) (rest := ss1C.drop 8) (id := 0) (by kernel_rfl) (fun j : { j : Nat // j ≤ ks.length ∧ ∀ i, i < j → mF (ks.getD i fr0) = true } => ss1A ks ms (j.1 : Int) j.1 ((ks.take j.1).map (tF g))) (fun j => ks.length - j.1) ⟨0, Nat.zero_le _, fun i hi => absurd hi (Nat.not_lt_zero i)⟩ fun j => ?_
    obtain ⟨j, hj, hmay⟩ := j
    show DoesL _ _ (ss1A ks ms (j : Int) j ((ks.take j).map (tF g))) _
    have hlen : ((ks.take j).map (tF g)).length = j := by rw [List.length_map, List.length_take, Nat.min_eq_left hj]
    refine DoesL.iterP hE 300 _ (ss1_round1 true mF g tF aF uF sF ks ms (j : Int) j ((ks.take j).map (tF g))) ⟨vcLenFr ks, fun _ => ⟨fun h1 => ?_, fun h1 => ?_⟩⟩
    · simp only [decide_eq_true_eq] at h1
      have hj1 : j < ks.length := by omega
      refine ⟨vcIdxFr hj1, fun _ => ⟨vcGetFr hj1, fun _ => ⟨fun _ => ⟨.t, rfl, trivial⟩, fun h2 => ⟨vcIdxFr hj1, fun _ => ⟨vcGetFr hj1, fun _ => ⟨⟨⟨by rw [rowsC_g1, hlen]; omega, rfl⟩, by omega, by omega⟩, fun _ => ?_⟩⟩⟩⟩⟩⟩
      rw [zero_add_nat] at h2 ⊢
      have h2 : mF (ks.getD j fr0) = true := of_not_false h2
      refine ⟨⟨j + 1, hj1, fun i hi => ?_⟩, by show ks.length - (j + 1) < ks.length - j; omega, ?_⟩
      · rcases Nat.lt_succ_iff_lt_or_eq.1 hi with h3 | h3
        · exact hmay i h3
        · rw [h3]; exact h2
      · show _ = ss1A ks ms ((j + 1 : Nat) : Int) (j + 1) ((ks.take (j + 1)).map (tF g))
        rw [wrap_succ j (by omega), wholeAppG1 hlen, take_snoc ks fr0 hj1, List.map_append]
        rfl
    · simp only [decide_eq_false_iff_not] at h1
      obtain rfl : j = ks.length := by omega
      refine ⟨rfl, ?_⟩
      rw [List.take_length] at hlen ⊢
      refine DoesL.stageG hE 300 2 _ _ _ _ _ (ss1_mid true mF g tF aF uF sF ks ms (ks.length : Int) ks.length (ks.map (tF g))) ?_
      show DoesL _ _ (ss1S ks ms ((0 : Nat) : Int) ks.length (ks.map (tF g)) (ssumF aF uF ks ms 0)) _
      refine DoesL.blockLoopR (B := ss1B 1) (rest := ss1C.drop 11) (id := 2) (by kernel_rfl) (fun j : { j : Nat // j ≤ ms.length ∧ ∀ i, i < j → mF (ms.getD i fr0) = true } => ss1S ks ms (j.1 : Int) ks.length (ks.map (tF g)) (ssumF aF uF ks ms j.1)) (fun j => ms.length - j.1) ⟨0, Nat.zero_le _, fun i hi => absurd hi (Nat.not_lt_zero i)⟩ fun j => ?_
      obtain ⟨j, hj, hmay2⟩ := j
      show DoesL _ _ (ss1S ks ms (j : Int) ks.length (ks.map (tF g)) (ssumF aF uF ks ms j)) _
      refine DoesL.iterP hE 300 _ (ss1_round2 true mF g tF aF uF sF ks ms (j : Int) ks.length (ks.map (tF g)) (ssumF aF uF ks ms j)) ⟨vcLenFr ms, fun _ => ⟨fun h1 => ?_, fun h1 => ?_⟩⟩
      · simp only [decide_eq_true_eq] at h1
        have hj1 : j < ms.length := by omega
        refine ⟨vcIdxFr hj1, fun _ => ⟨vcGetFr hj1, fun _ => ⟨fun _ => ⟨.t, rfl, trivial⟩, fun h2 => ⟨vcLenFr ks, fun _ => ⟨fun h3 => ?_, fun h3 => ?_⟩⟩⟩⟩⟩
        all_goals
          rw [zero_add_nat] at h2
          have h2 : mF (ms.getD j fr0) = true := of_not_false h2
          have hmay3 : ∀ i, i < j + 1 → mF (ms.getD i fr0) = true := fun i hi => by
            rcases Nat.lt_succ_iff_lt_or_eq.1 hi with h3 | h3
            · exact hmay2 i h3
            · rw [h3]; exact h2
        · simp only [decide_eq_true_eq] at h3
          have hj2 : j < ks.length := by omega
          refine ⟨vcIdxFr hj2, fun _ => ⟨vcGetFr hj2, fun _ => ⟨vcIdxFr hj1, fun _ => ⟨vcGetFr hj1, fun _ => ?_⟩⟩⟩⟩
          refine ⟨⟨j + 1, hj1, hmay3⟩, by show ms.length - (j + 1) < ms.length - j; omega, ?_⟩
          show _ = ss1S ks ms ((j + 1 : Nat) : Int) ks.length (ks.map (tF g)) (ssumF aF uF ks ms (j + 1))
          rw [wrap_succ j (by omega), zero_add_nat, ssumF, if_pos hj2]
          rfl
        · simp only [decide_eq_false_iff_not] at h3
          have hj2 : ¬ j < ks.length := by omega
          refine ⟨⟨j + 1, hj1, hmay3⟩, by show ms.length - (j + 1) < ms.length - j; omega, ?_⟩
          show _ = ss1S ks ms ((j + 1 : Nat) : Int) ks.length (ks.map (tF g)) (ssumF aF uF ks ms (j + 1))
          rw [wrap_succ j (by omega), ssumF, if_neg hj2]
          rfl
      · simp only [decide_eq_false_iff_not] at h1
        obtain rfl : j = ms.length := by omega
        have hfin := h hmay hmay2
        refine ⟨rfl, DoesL.ends hE 300 (ss1_end true mF g tF aF uF sF ks ms _ _ _ _) ?_⟩
        rw [wholeTakeG1 hlen, wholeTakeFr rfl]
        refine ⟨⟨⟨⟨by rw [rowsC_g1, hlen]; omega, rfl, by omega, rfl, rfl⟩, by show (ks.map (tF g)).length < 4294967296; omega⟩, vcAllFr hm⟩, fun _ => reads_t ?_⟩
        rw [hfin]
        exact (pg1Eq_iff _ _).2 rfl)

end Go.Proofs.Ytchlamfdofpolaa
