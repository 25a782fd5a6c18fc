/- The document's Times: a product by half limbs. -/
import Derived.Test.YtehhcpopfgieeaaMt
set_option linter.unusedSimpArgs false
set_option linter.unusedVariables false
namespace Go.Proofs.Ytehhcpopfgieeaa
open Go.RowKit

noncomputable abbrev timesE (hF cF : List UInt64 → List UInt64) : Env := Ens [(91, K1 aLt rL hF), (92, K1 aLc rL cF)] [91, 92]
theorem timesE_ok : EnvOk (timesE rhvsF cutF) := Ens_ok (.cons rhvs_ok (.cons cut_ok .nil))
noncomputable abbrev timesC : List Code := flat (codeOf Try.f47)
noncomputable abbrev timesB : Code := loopAt Try.f47 0
noncomputable abbrev timesI : Code := loopAt Try.f47 1
noncomputable abbrev timesP : Code := loopAt Try.f47 2
def unblock : Code → Code
  | .block _ c => c
  | c => c
noncomputable abbrev timesD : Code := match nth (flat timesB) 2 with | some c => unblock c | none => .skip
theorem timesB_split : (flat timesB).drop 2 = .block 1 timesD :: (flat timesB).drop 3 := by kernel_rfl
theorem timesB_last : ((flat timesB).drop 3).drop 1 = [] := by kernel_rfl
theorem timesD_split : (flat timesD).drop 2 = .block 2 (.loop timesI) :: [] := by kernel_rfl

def tOut (x y acc : List UInt64) (i : Int) : St := mkSt 103 [(5, slV 0 x), (6, slV 1 y), (7, slV 2 acc), (8, vI i)] [ownL x, ownL y, ownL acc]
def tIn (x y acc : List UInt64) (i : Int) (c : UInt64) (k : Int) : St := mkSt 103 [(5, slV 0 x), (6, slV 1 y), (7, slV 2 acc), (8, vI i), (9, .one (.c (.u64 c))), (10, vI k)] [ownL x, ownL y, ownL acc]
def tPk (acc out : List UInt64) (i : Int) : St := mkSt 103 [(7, slV 0 acc), (12, slV 1 out), (13, vI i)] [ownL acc, ownL out]

theorem times_start (hF cF : List UInt64 → List UInt64) (a b : List UInt64) : stageG (timesE hF cF) 100 (timesC.take 4) (startSt Try.f47 [iL.av 0 a, iL.av 1 b] [inHE eU64 a, inHE eU64 b]) [5, 6, 7, 8] [2, 3, 4] [(5, .as), (6, .as), (7, .as), (8, .int)] [] [] =
  (.vc ((0 + a.length ≤ a.length ∧ a.length < 1125899906842624 ∧ 0 = 0 ∧ 1 = 1) ∧ tiny (List.take a.length (List.drop 0 a)))
    (.vc ((0 + b.length ≤ b.length ∧ b.length < 1125899906842624 ∧ 0 = 0 ∧ 1 = 1) ∧ tiny (List.take b.length (List.drop 0 b)))
      (.vc (0 + (hF (List.take a.length (List.drop 0 a))).length * 1 ≤ (List.map EK.u64.cell (hF (List.take a.length (List.drop 0 a)))).length ∧ 0 < 1)
        (.vc (0 + (hF (List.take b.length (List.drop 0 b))).length * 1 ≤ (List.map EK.u64.cell (hF (List.take b.length (List.drop 0 b)))).length ∧ 0 < 1)
          (.vc (0 ≤ IntKind.i64.wrap (IntKind.i64.wrap ((↑(hF (List.take a.length (List.drop 0 a))).length : Int) + (↑(hF (List.take b.length (List.drop 0 b))).length : Int)) + 1) ∧ IntKind.i64.wrap (IntKind.i64.wrap ((↑(hF (List.take a.length (List.drop 0 a))).length : Int) + (↑(hF (List.take b.length (List.drop 0 b))).length : Int)) + 1) ≤ IntKind.i64.wrap (IntKind.i64.wrap ((↑(hF (List.take a.length (List.drop 0 a))).length : Int) + (↑(hF (List.take b.length (List.drop 0 b))).length : Int)) + 1) ∧ (↑8 : Int) * IntKind.i64.wrap (IntKind.i64.wrap ((↑(hF (List.take a.length (List.drop 0 a))).length : Int) + (↑(hF (List.take b.length (List.drop 0 b))).length : Int)) + 1) ≤ 281474976710656 ∧ IntKind.i64.wrap (IntKind.i64.wrap ((↑(hF (List.take a.length (List.drop 0 a))).length : Int) + (↑(hF (List.take b.length (List.drop 0 b))).length : Int)) + 1) < 1125899906842624)
            (.leaf (mkSt 103 [(5, .one (.c (.slc 0 0 ((hF (List.take a.length (List.drop 0 a))).length) 1 (.of 0) false))), (6, .one (.c (.slc 1 0 ((hF (List.take b.length (List.drop 0 b))).length) 1 (.of 0) false))), (7, .one (.c (.slc 2 0 ((IntKind.i64.wrap (IntKind.i64.wrap ((↑(hF (List.take a.length (List.drop 0 a))).length : Int) + (↑(hF (List.take b.length (List.drop 0 b))).length : Int)) + 1)).toNat) 1 (.of 0) false))), (8, .one (.c (.int .i64 0)))] [.live ⟨true, 22, 1, (.elts .u64 (hF (List.take a.length (List.drop 0 a)) : List UInt64)), false⟩, .live ⟨true, 22, 1, (.elts .u64 (hF (List.take b.length (List.drop 0 b)) : List UInt64)), false⟩, .live ⟨true, 22, 1, (.elts .u64 (List.replicate (IntKind.i64.wrap (IntKind.i64.wrap ((↑(hF (List.take a.length (List.drop 0 a))).length : Int) + (↑(hF (List.take b.length (List.drop 0 b))).length : Int)) + 1)).toNat 0 : List UInt64)), false⟩]))))))) := by kernel_rfl
theorem times_head (hF cF : List UInt64 → List UInt64) (x y acc : List UInt64) (i : Int) : partT (timesE hF cF) 100 ((flat timesB).take 2) (tOut x y acc i) (following [5, 6, 7, 8] [0, 1, 2] []) =
  (.vc (0 + x.length * 1 ≤ (List.map EK.u64.cell x).length ∧ 0 < 1)
    (.br (decide (i < (↑x.length : Int)))
      (.leaf ((.normal, mkSt 103 [(5, .one (.c (.slc 0 0 (x.length) 1 (.of 0) false))), (6, .one (.c (.slc 1 0 (y.length) 1 (.of 0) false))), (7, .one (.c (.slc 2 0 (acc.length) 1 (.of 0) false))), (8, .one (.c (.int .i64 (i))))] [.live ⟨true, 22, 1, (.elts .u64 (x : List UInt64)), false⟩, .live ⟨true, 22, 1, (.elts .u64 (y : List UInt64)), false⟩, .live ⟨true, 22, 1, (.elts .u64 (acc : List UInt64)), false⟩])))
      (.leaf ((.exit 0, mkSt 103 [(5, .one (.c (.slc 0 0 (x.length) 1 (.of 0) false))), (6, .one (.c (.slc 1 0 (y.length) 1 (.of 0) false))), (7, .one (.c (.slc 2 0 (acc.length) 1 (.of 0) false))), (8, .one (.c (.int .i64 (i))))] [.live ⟨true, 22, 1, (.elts .u64 (x : List UInt64)), false⟩, .live ⟨true, 22, 1, (.elts .u64 (y : List UInt64)), false⟩, .live ⟨true, 22, 1, (.elts .u64 (acc : List UInt64)), false⟩]))))) := by kernel_rfl
theorem times_in (hF cF : List UInt64 → List UInt64) (x y acc : List UInt64) (i : Int) : stageG (timesE hF cF) 100 ((flat timesD).take 2) (tOut x y acc i) [5, 6, 7, 8, 9, 10] [0, 1, 2] [(5, .as), (6, .as), (7, .as), (8, .as), (9, .u64), (10, .int)] [] [] =
  (.leaf (mkSt 103 [(5, .one (.c (.slc 0 0 (x.length) 1 (.of 0) false))), (6, .one (.c (.slc 1 0 (y.length) 1 (.of 0) false))), (7, .one (.c (.slc 2 0 (acc.length) 1 (.of 0) false))), (8, .one (.c (.int .i64 (i)))), (9, .one (.c (.u64 (UInt64.ofNat 0)))), (10, .one (.c (.int .i64 0)))] [.live ⟨true, 22, 1, (.elts .u64 (x : List UInt64)), false⟩, .live ⟨true, 22, 1, (.elts .u64 (y : List UInt64)), false⟩, .live ⟨true, 22, 1, (.elts .u64 (acc : List UInt64)), false⟩])) := by kernel_rfl
theorem times_round (hF cF : List UInt64 → List UInt64) (x y acc : List UInt64) (i : Int) (c : UInt64) (k : Int) : roundT (timesE hF cF) 100 timesI (tIn x y acc i c k) (same [5, 6, 7, 8, 9, 10] [0, 1, 2]) =
  (.vc (0 + y.length * 1 ≤ (List.map EK.u64.cell y).length ∧ 0 < 1)
    (.br (decide (k < (↑y.length : Int)))
      (.vc ((0 ≤ IntKind.i64.wrap (i + k) ∧ IntKind.i64.wrap (i + k) < (↑acc.length : Int)) ∧ 0 + acc.length * 1 ≤ (List.map EK.u64.cell acc).length ∧ 0 < 1)
        (.vc (0 + (IntKind.i64.wrap (i + k)).toNat * 1 < acc.length)
          (.vc (0 + y.length * 1 ≤ (List.map EK.u64.cell y).length ∧ 0 < 1)
            (.br (decide (k < (↑y.length : Int)))
              (.vc ((0 ≤ i ∧ i < (↑x.length : Int)) ∧ 0 + x.length * 1 ≤ (List.map EK.u64.cell x).length ∧ 0 < 1)
                (.vc (0 + i.toNat * 1 < x.length)
                  (.vc ((0 ≤ k ∧ k < (↑y.length : Int)) ∧ 0 + y.length * 1 ≤ (List.map EK.u64.cell y).length ∧ 0 < 1)
                    (.vc (0 + k.toNat * 1 < y.length)
                      (.vc ((0 ≤ IntKind.i64.wrap (i + k) ∧ IntKind.i64.wrap (i + k) < (↑acc.length : Int)) ∧ 0 + acc.length * 1 ≤ (List.map EK.u64.cell acc).length ∧ 0 < 1)
                        (.vc (0 + (IntKind.i64.wrap (i + k)).toNat * 1 < acc.length)
                          (.leaf ((.normal, mkSt 103 [(5, .one (.c (.slc 0 0 (x.length) 1 (.of 0) false))), (6, .one (.c (.slc 1 0 (y.length) 1 (.of 0) false))), (7, .one (.c (.slc 2 0 (acc.length) 1 (.of 0) false))), (8, .one (.c (.int .i64 (i)))), (9, .one (.c (.u64 (shrU (acc.getD (0 + (IntKind.i64.wrap (i + k)).toNat * 1) 0 + c + x.getD (0 + i.toNat * 1) 0 * y.getD (0 + k.toNat * 1) 0) 32)))), (10, .one (.c (.int .i64 (IntKind.i64.wrap (k + 1)))))] [.live ⟨true, 22, 1, (.elts .u64 (x : List UInt64)), false⟩, .live ⟨true, 22, 1, (.elts .u64 (y : List UInt64)), false⟩, .live ⟨true, 22, 1, (.elts .u64 (acc.set (0 + (IntKind.i64.wrap (i + k)).toNat * 1) (acc.getD (0 + (IntKind.i64.wrap (i + k)).toNat * 1) 0 + c + x.getD (0 + i.toNat * 1) 0 * y.getD (0 + k.toNat * 1) 0 &&& UInt64.ofNat 4294967295) : List UInt64)), false⟩])))))))))
              (.vc ((0 ≤ IntKind.i64.wrap (i + k) ∧ IntKind.i64.wrap (i + k) < (↑acc.length : Int)) ∧ 0 + acc.length * 1 ≤ (List.map EK.u64.cell acc).length ∧ 0 < 1)
                (.vc (0 + (IntKind.i64.wrap (i + k)).toNat * 1 < acc.length)
                  (.leaf ((.normal, mkSt 103 [(5, .one (.c (.slc 0 0 (x.length) 1 (.of 0) false))), (6, .one (.c (.slc 1 0 (y.length) 1 (.of 0) false))), (7, .one (.c (.slc 2 0 (acc.length) 1 (.of 0) false))), (8, .one (.c (.int .i64 (i)))), (9, .one (.c (.u64 (shrU (acc.getD (0 + (IntKind.i64.wrap (i + k)).toNat * 1) 0 + c) 32)))), (10, .one (.c (.int .i64 (IntKind.i64.wrap (k + 1)))))] [.live ⟨true, 22, 1, (.elts .u64 (x : List UInt64)), false⟩, .live ⟨true, 22, 1, (.elts .u64 (y : List UInt64)), false⟩, .live ⟨true, 22, 1, (.elts .u64 (acc.set (0 + (IntKind.i64.wrap (i + k)).toNat * 1) (acc.getD (0 + (IntKind.i64.wrap (i + k)).toNat * 1) 0 + c &&& UInt64.ofNat 4294967295) : List UInt64)), false⟩])))))))))
      (.br (decide (UInt64.ofNat 0 < c))
        (.vc ((0 ≤ IntKind.i64.wrap (i + k) ∧ IntKind.i64.wrap (i + k) < (↑acc.length : Int)) ∧ 0 + acc.length * 1 ≤ (List.map EK.u64.cell acc).length ∧ 0 < 1)
          (.vc (0 + (IntKind.i64.wrap (i + k)).toNat * 1 < acc.length)
            (.vc (0 + y.length * 1 ≤ (List.map EK.u64.cell y).length ∧ 0 < 1)
              (.br (decide (k < (↑y.length : Int)))
                (.vc ((0 ≤ i ∧ i < (↑x.length : Int)) ∧ 0 + x.length * 1 ≤ (List.map EK.u64.cell x).length ∧ 0 < 1)
                  (.vc (0 + i.toNat * 1 < x.length)
                    (.vc ((0 ≤ k ∧ k < (↑y.length : Int)) ∧ 0 + y.length * 1 ≤ (List.map EK.u64.cell y).length ∧ 0 < 1)
                      (.vc (0 + k.toNat * 1 < y.length)
                        (.vc ((0 ≤ IntKind.i64.wrap (i + k) ∧ IntKind.i64.wrap (i + k) < (↑acc.length : Int)) ∧ 0 + acc.length * 1 ≤ (List.map EK.u64.cell acc).length ∧ 0 < 1)
                          (.vc (0 + (IntKind.i64.wrap (i + k)).toNat * 1 < acc.length)
                            (.leaf ((.normal, mkSt 103 [(5, .one (.c (.slc 0 0 (x.length) 1 (.of 0) false))), (6, .one (.c (.slc 1 0 (y.length) 1 (.of 0) false))), (7, .one (.c (.slc 2 0 (acc.length) 1 (.of 0) false))), (8, .one (.c (.int .i64 (i)))), (9, .one (.c (.u64 (shrU (acc.getD (0 + (IntKind.i64.wrap (i + k)).toNat * 1) 0 + c + x.getD (0 + i.toNat * 1) 0 * y.getD (0 + k.toNat * 1) 0) 32)))), (10, .one (.c (.int .i64 (IntKind.i64.wrap (k + 1)))))] [.live ⟨true, 22, 1, (.elts .u64 (x : List UInt64)), false⟩, .live ⟨true, 22, 1, (.elts .u64 (y : List UInt64)), false⟩, .live ⟨true, 22, 1, (.elts .u64 (acc.set (0 + (IntKind.i64.wrap (i + k)).toNat * 1) (acc.getD (0 + (IntKind.i64.wrap (i + k)).toNat * 1) 0 + c + x.getD (0 + i.toNat * 1) 0 * y.getD (0 + k.toNat * 1) 0 &&& UInt64.ofNat 4294967295) : List UInt64)), false⟩])))))))))
                (.vc ((0 ≤ IntKind.i64.wrap (i + k) ∧ IntKind.i64.wrap (i + k) < (↑acc.length : Int)) ∧ 0 + acc.length * 1 ≤ (List.map EK.u64.cell acc).length ∧ 0 < 1)
                  (.vc (0 + (IntKind.i64.wrap (i + k)).toNat * 1 < acc.length)
                    (.leaf ((.normal, mkSt 103 [(5, .one (.c (.slc 0 0 (x.length) 1 (.of 0) false))), (6, .one (.c (.slc 1 0 (y.length) 1 (.of 0) false))), (7, .one (.c (.slc 2 0 (acc.length) 1 (.of 0) false))), (8, .one (.c (.int .i64 (i)))), (9, .one (.c (.u64 (shrU (acc.getD (0 + (IntKind.i64.wrap (i + k)).toNat * 1) 0 + c) 32)))), (10, .one (.c (.int .i64 (IntKind.i64.wrap (k + 1)))))] [.live ⟨true, 22, 1, (.elts .u64 (x : List UInt64)), false⟩, .live ⟨true, 22, 1, (.elts .u64 (y : List UInt64)), false⟩, .live ⟨true, 22, 1, (.elts .u64 (acc.set (0 + (IntKind.i64.wrap (i + k)).toNat * 1) (acc.getD (0 + (IntKind.i64.wrap (i + k)).toNat * 1) 0 + c &&& UInt64.ofNat 4294967295) : List UInt64)), false⟩])))))))))
        (.leaf ((.exit 2, mkSt 103 [(5, .one (.c (.slc 0 0 (x.length) 1 (.of 0) false))), (6, .one (.c (.slc 1 0 (y.length) 1 (.of 0) false))), (7, .one (.c (.slc 2 0 (acc.length) 1 (.of 0) false))), (8, .one (.c (.int .i64 (i)))), (9, .one (.c (.u64 (c)))), (10, .one (.c (.int .i64 (k))))] [.live ⟨true, 22, 1, (.elts .u64 (x : List UInt64)), false⟩, .live ⟨true, 22, 1, (.elts .u64 (y : List UInt64)), false⟩, .live ⟨true, 22, 1, (.elts .u64 (acc : List UInt64)), false⟩])))))) := by kernel_rfl
theorem times_next (hF cF : List UInt64 → List UInt64) (x y acc : List UInt64) (i : Int) (c : UInt64) (k : Int) : partT (timesE hF cF) 100 (((flat timesB).drop 3).take 1) (tIn x y acc i c k) (following [5, 6, 7, 8] [0, 1, 2] []) =
  (.leaf ((.normal, mkSt 103 [(5, .one (.c (.slc 0 0 (x.length) 1 (.of 0) false))), (6, .one (.c (.slc 1 0 (y.length) 1 (.of 0) false))), (7, .one (.c (.slc 2 0 (acc.length) 1 (.of 0) false))), (8, .one (.c (.int .i64 (IntKind.i64.wrap (i + 1)))))] [.live ⟨true, 22, 1, (.elts .u64 (x : List UInt64)), false⟩, .live ⟨true, 22, 1, (.elts .u64 (y : List UInt64)), false⟩, .live ⟨true, 22, 1, (.elts .u64 (acc : List UInt64)), false⟩]))) := by kernel_rfl
theorem times_mid (hF cF : List UInt64 → List UInt64) (x y acc : List UInt64) (i : Int) : stageG (timesE hF cF) 100 ((timesC.drop 5).take 2) (tOut x y acc i) [7, 12, 13] [2] [(7, .as), (12, .nil 1), (13, .int)] [] [(22, .u64)] =
  (.leaf (mkSt 103 [(7, .one (.c (.slc 0 0 (acc.length) 1 (.of 0) false))), (12, .one (.c (.slc 1 0 0 1 (.of 0) false))), (13, .one (.c (.int .i64 0)))] [.live ⟨true, 22, 1, (.elts .u64 (acc : List UInt64)), false⟩, .live ⟨true, 22, 1, (.elts .u64 ([] : List UInt64)), false⟩])) := by kernel_rfl
theorem times_pack (hF cF : List UInt64 → List UInt64) (acc out : List UInt64) (i : Int) : roundP (timesE hF cF) 100 timesP (tPk acc out i) (following [7, 12, 13] [0] [12]) =
  (.vc (0 + acc.length * 1 ≤ (List.map EK.u64.cell acc).length ∧ 0 < 1)
    (.br (decide (i < (↑acc.length : Int)))
      (.vc ((0 ≤ i ∧ i < (↑acc.length : Int)) ∧ 0 + acc.length * 1 ≤ (List.map EK.u64.cell acc).length ∧ 0 < 1)
        (.vc (0 + i.toNat * 1 < acc.length)
          (.vc (0 + acc.length * 1 ≤ (List.map EK.u64.cell acc).length ∧ 0 < 1)
            (.br (decide (IntKind.i64.wrap (i + 1) < (↑acc.length : Int)))
              (.vc ((0 ≤ IntKind.i64.wrap (i + 1) ∧ IntKind.i64.wrap (i + 1) < (↑acc.length : Int)) ∧ 0 + acc.length * 1 ≤ (List.map EK.u64.cell acc).length ∧ 0 < 1)
                (.vc (0 + (IntKind.i64.wrap (i + 1)).toNat * 1 < acc.length)
                  (.vc (0 + out.length ≤ out.length ∧ out.length + 1 ≤ 9223372036854775807 ∧ (out.length + 1) * 8 ≤ 140737488355328)
                    (.leaf ((.normal, mkSt 103 [(7, .one (.c (.slc 0 0 (acc.length) 1 (.of 0) false))), (12, .one (.c (.slc 1 0 (out.length + 1) 1 (.of 0) false))), (13, .one (.c (.int .i64 (IntKind.i64.wrap (i + 2)))))] [.live ⟨true, 22, 1, (.elts .u64 (acc : List UInt64)), false⟩, .live ⟨true, 22, 1, (.elts .u64 (List.take out.length (List.drop 0 out) ++ [acc.getD (0 + i.toNat * 1) 0 + shlU (acc.getD (0 + (IntKind.i64.wrap (i + 1)).toNat * 1) 0) 32] : List UInt64)), false⟩]))))))
              (.vc (0 + out.length ≤ out.length ∧ out.length + 1 ≤ 9223372036854775807 ∧ (out.length + 1) * 8 ≤ 140737488355328)
                (.leaf ((.normal, mkSt 103 [(7, .one (.c (.slc 0 0 (acc.length) 1 (.of 0) false))), (12, .one (.c (.slc 1 0 (out.length + 1) 1 (.of 0) false))), (13, .one (.c (.int .i64 (IntKind.i64.wrap (i + 2)))))] [.live ⟨true, 22, 1, (.elts .u64 (acc : List UInt64)), false⟩, .live ⟨true, 22, 1, (.elts .u64 (List.take out.length (List.drop 0 out) ++ [acc.getD (0 + i.toNat * 1) 0] : List UInt64)), false⟩]))))))))
      (.leaf ((.exit 4, mkSt 103 [(7, .one (.c (.slc 0 0 (acc.length) 1 (.of 0) false))), (12, .one (.c (.slc 1 0 (out.length) 1 (.of 0) false))), (13, .one (.c (.int .i64 (i))))] [.live ⟨true, 22, 1, (.elts .u64 (acc : List UInt64)), false⟩, .live ⟨true, 22, 1, (.elts .u64 (out : List UInt64)), false⟩]))))) := by kernel_rfl
theorem times_end (hF cF : List UInt64 → List UInt64) (acc out : List UInt64) (i : Int) : endT (timesE hF cF) oL 100 Try.f47 (timesC.drop 8) (tPk acc out i) =
  (.vc ((0 + out.length ≤ out.length ∧ out.length < 1125899906842624 ∧ 0 = 0 ∧ 1 = 1) ∧ short (List.take out.length (List.drop 0 out)))
    (.leaf (some ((List.take (cF (List.take out.length (List.drop 0 out))).length (cF (List.take out.length (List.drop 0 out))), (.p ((cF (List.take out.length (List.drop 0 out))).length ≤ (cF (List.take out.length (List.drop 0 out))).length))))))) := by kernel_rfl

abbrev TIn (x : UInt64) (ys : List UInt64) (i : Nat) (acc : List UInt64) : Type := { q : Nat × List UInt64 × UInt64 // (q.1 ≤ ys.length ∧ q.2 = rowAt x ys i acc q.1) ∨ (q.1 = ys.length + 1 ∧ q.2 = (rowEnd x ys i acc, 0)) }

theorem at0 (xs : List UInt64) (n : Nat) : xs.getD (0 + ((n : Int)).toNat * 1) 0 = atF xs n := getZ xs n
theorem wrap_add (i k : Nat) (h : i + k < 9223372036854775807) : IntKind.i64.wrap ((i : Int) + (k : Int)) = ((i + k : Nat) : Int) := by rw [IntWalk.i64_in _ (by omega)]; omega
theorem tIn_eq (x y acc l : List UInt64) (i c) (k : Int) (h : l.length = acc.length) : mkSt 103 [(5, slV 0 x), (6, slV 1 y), (7, .one (.c (.slc 2 0 acc.length 1 (.of 0) false))), (8, vI i), (9, .one (.c (.u64 c))), (10, vI k)] [ownL x, ownL y, ownL l] = tIn x y l i c k := by
  unfold tIn slV
  rw [h]

/-- One row. -/
theorem times_row {x y acc : List UInt64} {i : Nat} (hp : RowPre (atF x i) y i acc) (hi : i < x.length) (hbig : acc.length < 1125899906842624) (hy : y.length < 1125899906842624) {R : X × St → Prop}
    (h : ∀ c k, DoesL (timesE rhvsF cutF) ((flat timesB).drop 3) (tIn x y (rowEnd (atF x i) y i acc) (i : Int) c k) R) : DoesL (timesE rhvsF cutF) ((flat timesB).drop 2) (tOut x y acc (i : Int)) R := by
  have hE := timesE_ok
  rw [timesB_split]
  show Does _ (.block 1 timesD) _ (ThenX R fun s => DoesL _ ((flat timesB).drop 3) s R)
  refine Does.block (Does.flat timesD ?_)
  refine DoesL.stageG hE 100 2 _ _ _ _ _ (times_in rhvsF cutF x y acc (i : Int)) ?_
  refine (?_ : DoesL _ _ (tIn x y acc (i : Int) 0 ((0 : Nat) : Int)) _)
  refine DoesL.blockLoop (B := timesI) (rest := []) (id := 2) timesD_split (fun q : TIn (atF x i) y i acc => tIn x y q.1.2.1 (i : Int) q.1.2.2 (q.1.1 : Int)) (fun q => y.length + 1 - q.1.1) ⟨(0, acc, 0), .inl ⟨Nat.zero_le _, rfl⟩⟩ fun q => ?_
  obtain ⟨⟨k, l, c⟩, hq⟩ := q
  show Does _ _ (tIn x y l (i : Int) c (k : Int)) _
  have hout : k ≤ y.length + 1 := by rcases hq with ⟨h1, _⟩ | ⟨h1, _⟩ <;> (simp only [] at h1; omega)
  have hroom := hp.room
  have hll : l.length = acc.length := by
    rcases hq with ⟨h1, h2⟩ | ⟨_, h2⟩
    · have h2 : (l, c) = rowAt (atF x i) y i acc k := h2
      have h1 : k ≤ y.length := h1
      have := (rowAt_spec hp k h1).1
      rw [← h2] at this
      exact this
    · have h2 : (l, c) = (rowEnd (atF x i) y i acc, 0) := h2
      have := (rowEnd_spec hp).1
      cases h2
      exact this
  have he1 : UInt64.ofNat 4294967295 = (4294967295 : UInt64) := rfl
  have he0 : UInt64.ofNat 0 = (0 : UInt64) := rfl
  refine Does.round hE 100 _ (times_round rhvsF cutF x y l (i : Int) c (k : Int)) ?_
  rw [wrap_add i k (by omega), wrap_succ k (by omega)]
  simp only [at0, he1, he0]
  refine ⟨vcLen y, fun _ => ⟨fun h1 => ?_, fun h1 => ?_⟩⟩
  · simp only [decide_eq_true_eq] at h1
    have hk : k < y.length := by omega
    obtain ⟨_, h2⟩ | ⟨h2, _⟩ := hq
    · have h2 : (l, c) = rowAt (atF x i) y i acc k := h2
      have hlt : i + k < l.length := by omega
      refine ⟨vcIdx hlt, fun _ => ⟨vcGet hlt, fun _ => ⟨vcLen y, fun _ => ⟨fun _ => ?_, fun h3 => ?_⟩⟩⟩⟩
      · refine ⟨vcIdx hi, fun _ => ⟨vcGet hi, fun _ => ⟨vcIdx hk, fun _ => ⟨vcGet hk, fun _ => ⟨vcIdx hlt, fun _ => ⟨vcGet hlt, fun _ => ?_⟩⟩⟩⟩⟩⟩
        refine ⟨⟨(k + 1, _), .inl ⟨hk, rfl⟩⟩, ?_, ?_⟩
        · show y.length + 1 - (k + 1) < y.length + 1 - k; omega
        · show _ = tIn x y (rowAt (atF x i) y i acc (k + 1)).1 (i : Int) (rowAt (atF x i) y i acc (k + 1)).2 ((k + 1 : Nat) : Int)
          simp only [rowAt]
          rw [← h2]
          simp only []
          rw [← tIn_eq x y l _ _ _ _ (by rw [List.length_set])]
          rw [Int.toNat_natCast, Nat.zero_add, Nat.mul_one]
          rfl
      · simp only [decide_eq_false_iff_not] at h3
        omega
    · have h2 : k = y.length + 1 := h2
      omega
  · simp only [decide_eq_false_iff_not] at h1
    refine ⟨fun h3 => ?_, fun h3 => ?_⟩
    · obtain ⟨h4, h2⟩ | ⟨h4, h2⟩ := hq
      · have h4 : k ≤ y.length := h4
        have h2 : (l, c) = rowAt (atF x i) y i acc k := h2
        obtain rfl : k = y.length := by omega
        have hlt : i + y.length < l.length := by omega
        refine ⟨vcIdx hlt, fun _ => ⟨vcGet hlt, fun _ => ⟨vcLen y, fun _ => ⟨fun h5 => ?_, fun _ => ⟨vcIdx hlt, fun _ => ⟨vcGet hlt, fun _ => ?_⟩⟩⟩⟩⟩⟩
        · simp only [decide_eq_true_eq] at h5
          omega
        · have hc := more_carry hp
          rw [← h2] at hc
          have hc : shrU (atF l (i + y.length) + c) 32 = 0 := hc
          have hre : rowEnd (atF x i) y i acc = l.set (i + y.length) ((atF l (i + y.length) + c) &&& 4294967295) := by
            unfold rowEnd
            rw [← h2]
            simp only [h3]
            rfl
          refine ⟨⟨(y.length + 1, rowEnd (atF x i) y i acc, 0), .inr ⟨rfl, rfl⟩⟩, ?_, ?_⟩
          · show y.length + 1 - (y.length + 1) < y.length + 1 - y.length; omega
          · show _ = tIn x y (rowEnd (atF x i) y i acc) (i : Int) 0 ((y.length + 1 : Nat) : Int)
            rw [hc, hre, ← tIn_eq x y l _ _ _ _ (by rw [List.length_set])]
            rw [Int.toNat_natCast, Nat.zero_add, Nat.mul_one]
            rfl
      · have h2 : (l, c) = (rowEnd (atF x i) y i acc, 0) := h2
        cases h2
        cases h3
    · have hl : l = rowEnd (atF x i) y i acc := by
        obtain ⟨h4, h2⟩ | ⟨h4, h2⟩ := hq
        · have h4 : k ≤ y.length := h4
          have h2 : (l, c) = rowAt (atF x i) y i acc k := h2
          obtain rfl : k = y.length := by omega
          unfold rowEnd
          rw [← h2]
          simp only [h3]
        · have h2 : (l, c) = (rowEnd (atF x i) y i acc, 0) := h2
          cases h2
          rfl
      rw [hl]
      exact ⟨rfl, _, Wk.refl _, h c (k : Int)⟩

theorem tOut_eq (x y acc : List UInt64) (n : Nat) (h : n = acc.length) (i : Int) : mkSt 103 [(5, slV 0 x), (6, slV 1 y), (7, .one (.c (.slc 2 0 n 1 (.of 0) false))), (8, vI i)] [ownL x, ownL y, ownL acc] = tOut x y acc i := by
  subst h
  rfl
theorem tPk_eq (acc out : List UInt64) (n : Nat) (h : n = out.length) (i : Int) : mkSt 103 [(7, slV 0 acc), (12, .one (.c (.slc 1 0 n 1 (.of 0) false))), (13, vI i)] [ownL acc, ownL out] = tPk acc out i := by
  subst h
  rfl

theorem times_ok : CallOk Try.prog 47 (K2 aLt aLt rL timesF) :=
  G2 (E := timesE rhvsF cutF) Try.func47 (c := codeOf Try.f47) (by kernel_rfl) (bodied Try.func47 (by kernel_rfl) (by kernel_rfl)) iLt iLt oL timesF fun a b ha hb => by
    have ha : a.length < 4294967296 := ha.2
    have hb : b.length < 4294967296 := hb.2
    have hE := timesE_ok
    refine DoesL.stageG hE 100 4 _ _ _ _ _ (times_start rhvsF cutF a b) ?_
    simp only [whole]
    have hxl := rhvs_len a
    have hyl := rhvs_len b
    have hxd : Dig (rhvsF a) := hvs_dig a a.length
    have hyd : Dig (rhvsF b) := hvs_dig b b.length
    have hres : timesF a b = cutF (packAt (accAt (rhvsF a) (rhvsF b) (rhvsF a).length) (((rhvsF a).length + (rhvsF b).length + 2) / 2)) := rfl
    rw [hres]
    generalize rhvsF a = x at *
    generalize rhvsF b = y at *
    have hw : IntKind.i64.wrap (IntKind.i64.wrap ((x.length : Int) + (y.length : Int)) + 1) = ((x.length + y.length + 1 : Nat) : Int) := by
      rw [wrap_add x.length y.length (by omega), IntWalk.i64_in _ (by omega)]
      omega
    rw [hw]
    refine ⟨⟨okW (by omega), ha⟩, fun _ => ⟨⟨okW (by omega), hb⟩, fun _ => ⟨vcLen _, fun _ => ⟨vcLen _, fun _ => ⟨⟨by omega, by omega, by omega, by omega⟩, fun _ => ?_⟩⟩⟩⟩⟩
    rw [Int.toNat_natCast]
    refine (?_ : DoesL _ _ (mkSt 103 [(5, slV 0 x), (6, slV 1 y), (7, .one (.c (.slc 2 0 (x.length + y.length + 1) 1 (.of 0) false))), (8, vI 0)] [ownL x, ownL y, ownL (List.replicate (x.length + y.length + 1) 0)]) _)
    rw [tOut_eq _ _ _ _ (by rw [List.length_replicate])]
    refine (?_ : DoesL _ _ (tOut x y (accAt x y 0) ((0 : Nat) : Int)) _)
    refine DoesL.blockLoop (B := timesB) (rest := timesC.drop 5) (id := 0) (by kernel_rfl) (fun i : { i : Nat // i ≤ x.length } => tOut x y (accAt x y i.1) (i.1 : Int)) (fun i => x.length - i.1) ⟨0, Nat.zero_le _⟩ fun i => ?_
    obtain ⟨i, hi⟩ := i
    obtain ⟨h1, h2, h3, h4⟩ := accAt_spec hxd hyd i hi
    show Does _ _ (tOut x y (accAt x y i) (i : Int)) _
    refine Does.flat timesB ?_
    refine DoesL.part hE 100 2 _ (times_head rhvsF cutF x y (accAt x y i) (i : Int)) ⟨vcLen x, fun _ => ⟨fun h => ?_, fun h => ?_⟩⟩
    · simp only [decide_eq_true_eq] at h
      have hi' : i < x.length := by omega
      refine times_row (acc_pre hxd hyd hi') hi' (by omega) (by omega) fun c k => ?_
      refine DoesL.part hE 100 1 _ (times_next rhvsF cutF x y _ (i : Int) c k) ?_
      rw [wrap_succ i (by omega)]
      simp only [timesB_last]
      exact ⟨_, Wk.refl _, ⟨i + 1, hi'⟩, by show x.length - (i + 1) < x.length - i; omega, rfl⟩
    · simp only [decide_eq_false_iff_not] at h
      obtain rfl : i = x.length := by omega
      refine ⟨rfl, ?_⟩
      generalize accAt x y x.length = acc at *
      refine DoesL.stageG hE 100 2 _ _ _ _ _ (times_mid rhvsF cutF x y acc _) ?_
      have hend : (x.length + y.length + 2) / 2 = (acc.length + 1) / 2 := by rw [h1]
      rw [hend]
      refine (?_ : DoesL _ _ (tPk acc (packAt acc 0) ((2 * 0 : Nat) : Int)) _)
      refine DoesL.blockLoop (B := timesP) (rest := timesC.drop 8) (id := 4) (by kernel_rfl) (fun k : { k : Nat // k ≤ (acc.length + 1) / 2 } => tPk acc (packAt acc k.1) ((2 * k.1 : Nat) : Int)) (fun k => (acc.length + 1) / 2 - k.1) ⟨0, Nat.zero_le _⟩ fun k => ?_
      obtain ⟨k, hk⟩ := k
      show Does _ _ (tPk acc (packAt acc k) ((2 * k : Nat) : Int)) _
      have hpl := packAt_len acc k
      refine Does.roundP hE 100 _ (times_pack rhvsF cutF acc (packAt acc k) ((2 * k : Nat) : Int)) ?_
      have hw1 : IntKind.i64.wrap (((2 * k : Nat) : Int) + 1) = ((2 * k + 1 : Nat) : Int) := by rw [IntWalk.i64_in _ (by omega)]; omega
      have hw2 : IntKind.i64.wrap (((2 * k : Nat) : Int) + 2) = ((2 * (k + 1) : Nat) : Int) := by rw [IntWalk.i64_in _ (by omega)]; omega
      rw [hw1, hw2]
      simp only [whole, at0]
      refine ⟨vcLen acc, fun _ => ⟨fun h => ?_, fun h => ?_⟩⟩
      · simp only [decide_eq_true_eq] at h
        have hk0 : 2 * k < acc.length := by omega
        refine ⟨vcIdx hk0, fun _ => ⟨vcGet hk0, fun _ => ⟨vcLen acc, fun _ => ⟨fun h5 => ?_, fun h5 => ?_⟩⟩⟩⟩
        · simp only [decide_eq_true_eq] at h5
          have hk1 : 2 * k + 1 < acc.length := by omega
          refine ⟨vcIdx hk1, fun _ => ⟨vcGet hk1, fun _ => ⟨⟨by omega, by omega, by omega⟩, fun _ => ?_⟩⟩⟩
          refine ⟨⟨k + 1, by omega⟩, by show (acc.length + 1) / 2 - (k + 1) < (acc.length + 1) / 2 - k; omega, ?_⟩
          have hv : pairV acc k = atF acc (2 * k) + shlU (atF acc (2 * k + 1)) 32 := by unfold pairV; rw [decide_eq_true hk1]
          show _ = tPk acc (packAt acc k ++ [pairV acc k]) ((2 * (k + 1) : Nat) : Int)
          rw [hv, ← tPk_eq acc _ ((packAt acc k).length + 1) (by rw [List.length_append, List.length_singleton])]
          rfl
        · simp only [decide_eq_false_iff_not] at h5
          refine ⟨⟨by omega, by omega, by omega⟩, fun _ => ?_⟩
          refine ⟨⟨k + 1, by omega⟩, by show (acc.length + 1) / 2 - (k + 1) < (acc.length + 1) / 2 - k; omega, ?_⟩
          have hv : pairV acc k = atF acc (2 * k) := by unfold pairV; rw [decide_eq_false (by omega)]
          show _ = tPk acc (packAt acc k ++ [pairV acc k]) ((2 * (k + 1) : Nat) : Int)
          rw [hv, ← tPk_eq acc _ ((packAt acc k).length + 1) (by rw [List.length_append, List.length_singleton])]
          rfl
      · simp only [decide_eq_false_iff_not] at h
        obtain rfl : k = (acc.length + 1) / 2 := by omega
        refine ⟨rfl, DoesL.ends hE 100 (times_end rhvsF cutF acc _ _) ?_⟩
        simp only [whole]
        refine ⟨⟨okW (by omega), by show (packAt acc _).length < _; rw [hpl]; omega⟩, fun _ => reads_p ?_ (Nat.le_refl _)⟩
        rw [List.take_length]

end Go.Proofs.Ytehhcpopfgieeaa
