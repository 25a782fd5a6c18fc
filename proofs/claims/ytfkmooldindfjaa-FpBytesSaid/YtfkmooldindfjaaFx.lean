/- Bytes of numbers: the readings. -/
import Derived.Test.YtfkmooldindfjaaFw
set_option linter.unusedSimpArgs false
set_option linter.unusedVariables false
namespace Go.Proofs.Ytfkmooldindfjaa
open Go.RowKit

abbrev aB : Arg (List UInt8) := argSl eU8
abbrev iB : Inp (List UInt8) := inpSl eU8

/-! limb.cut -/
noncomputable abbrev cut2C : List Code := flat (codeOf Try.f70)
def cut2St (xs : List UInt64) (z : Int) : St := mkSt 23 [(0, inV 0 xs), (3, vI z)] [inHE eU64 xs]
theorem cut2_start (xs : List UInt64) : stageG (En []) 100 (cut2C.take 2) (startSt Try.f70 [iL.av 0 xs] [inHE eU64 xs]) [0, 3] [0] [(0, .as), (3, .int)] [] [] =
  (.vc (0 + xs.length * 1 ≤ (List.map EK.u64.cell xs).length ∧ 0 < 1)
    (.leaf (mkSt 23 [(0, .one (.c (.slc 0 0 (xs.length) 1 (.of 0) false))), (3, .one (.c (.int .i64 ((↑xs.length : Int)))))] [.live ⟨false, 0, 1, (.elts .u64 (xs : List UInt64)), false⟩]))) := by kernel_rfl
theorem cut2_round (xs : List UInt64) (z : Int) : roundT (En []) 100 (loopAt Try.f70 0) (cut2St xs z) (same [0, 3] [0]) =
  (.br (decide (z > 0))
    (.vc ((0 ≤ IntKind.i64.wrap (z - 1) ∧ IntKind.i64.wrap (z - 1) < (↑xs.length : Int)) ∧ 0 + xs.length * 1 ≤ (List.map EK.u64.cell xs).length ∧ 0 < 1)
      (.vc (0 + (IntKind.i64.wrap (z - 1)).toNat * 1 < xs.length)
        (.br (xs.getD (0 + (IntKind.i64.wrap (z - 1)).toNat * 1) 0 == UInt64.ofNat 0)
          (.leaf ((.normal, mkSt 23 [(0, .one (.c (.slc 0 0 (xs.length) 1 (.of 0) false))), (3, .one (.c (.int .i64 (IntKind.i64.wrap (z - 1)))))] [.live ⟨false, 0, 1, (.elts .u64 (xs : List UInt64)), false⟩])))
          (.leaf ((.exit 0, mkSt 23 [(0, .one (.c (.slc 0 0 (xs.length) 1 (.of 0) false))), (3, .one (.c (.int .i64 (z))))] [.live ⟨false, 0, 1, (.elts .u64 (xs : List UInt64)), false⟩]))))))
    (.leaf ((.exit 0, mkSt 23 [(0, .one (.c (.slc 0 0 (xs.length) 1 (.of 0) false))), (3, .one (.c (.int .i64 (z))))] [.live ⟨false, 0, 1, (.elts .u64 (xs : List UInt64)), false⟩])))) := by kernel_rfl
theorem cut2_end (xs : List UInt64) (z : Int) : endT (En []) oL 100 Try.f70 (cut2C.drop 3) (cut2St xs z) =
  (.vc (0 ≤ z ∧ 0 ≤ z.toNat ∧ z.toNat ≤ xs.length ∧ 0 + xs.length * 1 ≤ (List.map EK.u64.cell xs).length ∧ 0 < 1 ∧ (0 = 0 ∨ 0 < z.toNat) ∧ 0 = 0 ∧ 1 = 1)
    (.vc (0 + (z.toNat - 0) ≤ xs.length ∧ 0 + (z.toNat - 0) ≤ 9223372036854775807 ∧ (0 + (z.toNat - 0)) * 8 ≤ 140737488355328)
      (.leaf (some ((List.take (0 + (z.toNat - 0)) ([] ++ List.take (z.toNat - 0) (List.drop 0 xs)), (.p (0 + (z.toNat - 0) ≤ ([] ++ List.take (z.toNat - 0) (List.drop 0 xs)).length)))))))) := by kernel_rfl

/-! limb.Take -/
noncomputable abbrev takC : List Code := flat (codeOf Try.f61)
def takSt (b : List UInt8) (out : List UInt64) (i : Int) : St := mkSt 41 [(0, .one (.c (.slc 0 0 b.length 1 (.of 0) false))), (3, slV 1 out), (12, .one (.c (.slc 0 0 b.length 1 (.of 0) false))), (13, vI b.length), (14, vI i)] [inHE eU8 b, ownL out]
noncomputable abbrev takE (cF : List UInt64 → List UInt64) : Env := Ens [(70, K1 aLt rL cF)] [70]
theorem tak_start (cF : List UInt64 → List UInt64) (b : List UInt8) : stageG (takE cF) 100 (takC.take 3) (startSt Try.f61 [iB.av 0 b] [inHE eU8 b]) [0, 3, 12, 13, 14] [0, 1] [(0, .as), (3, .as), (12, .as), (13, .int), (14, .int)] [] [] =
  (.vc (0 + b.length * 1 ≤ (List.map EK.u8.cell b).length ∧ 0 < 1)
    (.vc (0 ≤ IntKind.i64.wrap (IntKind.i64.wrap ((↑b.length : Int).tdiv 8) + 1) ∧ IntKind.i64.wrap (IntKind.i64.wrap ((↑b.length : Int).tdiv 8) + 1) ≤ IntKind.i64.wrap (IntKind.i64.wrap ((↑b.length : Int).tdiv 8) + 1) ∧ (↑8 : Int) * IntKind.i64.wrap (IntKind.i64.wrap ((↑b.length : Int).tdiv 8) + 1) ≤ 281474976710656 ∧ IntKind.i64.wrap (IntKind.i64.wrap ((↑b.length : Int).tdiv 8) + 1) < 1125899906842624)
      (.vc (0 + b.length * 1 ≤ (List.map EK.u8.cell b).length ∧ 0 < 1)
        (.leaf (mkSt 41 [(0, .one (.c (.slc 0 0 (b.length) 1 (.of 0) false))), (3, .one (.c (.slc 1 0 ((IntKind.i64.wrap (IntKind.i64.wrap ((↑b.length : Int).tdiv 8) + 1)).toNat) 1 (.of 0) false))), (12, .one (.c (.slc 0 0 (b.length) 1 (.of 0) false))), (13, .one (.c (.int .i64 ((↑b.length : Int))))), (14, .one (.c (.int .i64 0)))] [.live ⟨false, 0, 1, (.elts .u8 (b : List UInt8)), false⟩, .live ⟨true, 22, 1, (.elts .u64 (List.replicate (IntKind.i64.wrap (IntKind.i64.wrap ((↑b.length : Int).tdiv 8) + 1)).toNat 0 : List UInt64)), false⟩]))))) := by kernel_rfl
theorem tak_round (cF : List UInt64 → List UInt64) (b : List UInt8) (out : List UInt64) (i : Int) : roundT (takE cF) 100 (loopAt Try.f61 0) (takSt b out i) (same [0, 3, 12, 13, 14] [0, 1]) =
  (.br (decide (i < (↑b.length : Int)))
    (.vc ((0 ≤ i ∧ i < (↑b.length : Int)) ∧ 0 + b.length * 1 ≤ (List.map EK.u8.cell b).length ∧ 0 < 1)
      (.vc (0 + i.toNat * 1 < b.length)
        (.vc (0 + b.length * 1 ≤ (List.map EK.u8.cell b).length ∧ 0 < 1)
          (.vc ((0 ≤ IntKind.i64.wrap ((IntKind.i64.wrap (IntKind.i64.wrap ((↑b.length : Int) - 1) - i)).tdiv 8) ∧ IntKind.i64.wrap ((IntKind.i64.wrap (IntKind.i64.wrap ((↑b.length : Int) - 1) - i)).tdiv 8) < (↑out.length : Int)) ∧ 0 + out.length * 1 ≤ (List.map EK.u64.cell out).length ∧ 0 < 1)
            (.vc (0 + (IntKind.i64.wrap ((IntKind.i64.wrap (IntKind.i64.wrap ((↑b.length : Int) - 1) - i)).tdiv 8)).toNat * 1 < out.length)
              (.vc ((0 ≤ IntKind.i64.wrap ((IntKind.i64.wrap (IntKind.i64.wrap ((↑b.length : Int) - 1) - i)).tdiv 8) ∧ IntKind.i64.wrap ((IntKind.i64.wrap (IntKind.i64.wrap ((↑b.length : Int) - 1) - i)).tdiv 8) < (↑out.length : Int)) ∧ 0 + out.length * 1 ≤ (List.map EK.u64.cell out).length ∧ 0 < 1)
                (.vc (0 + (IntKind.i64.wrap ((IntKind.i64.wrap (IntKind.i64.wrap ((↑b.length : Int) - 1) - i)).tdiv 8)).toNat * 1 < out.length)
                  (.leaf ((.normal, mkSt 41 [(0, .one (.c (.slc 0 0 (b.length) 1 (.of 0) false))), (3, .one (.c (.slc 1 0 (out.length) 1 (.of 0) false))), (12, .one (.c (.slc 0 0 (b.length) 1 (.of 0) false))), (13, .one (.c (.int .i64 ((↑b.length : Int))))), (14, .one (.c (.int .i64 (IntKind.i64.wrap (i + 1)))))] [.live ⟨false, 0, 1, (.elts .u8 (b : List UInt8)), false⟩, .live ⟨true, 22, 1, (.elts .u64 (out.set (0 + (IntKind.i64.wrap ((IntKind.i64.wrap (IntKind.i64.wrap ((↑b.length : Int) - 1) - i)).tdiv 8)).toNat * 1) (out.getD (0 + (IntKind.i64.wrap ((IntKind.i64.wrap (IntKind.i64.wrap ((↑b.length : Int) - 1) - i)).tdiv 8)).toNat * 1) 0 ||| shlU (UInt8.toUInt64 (b.getD (0 + i.toNat * 1) 0)) (↑(UInt64.ofNat (IntKind.i64.wrap (8 * (IntKind.i64.wrap (IntKind.i64.wrap ((↑b.length : Int) - 1) - i)).tmod 8) % 18446744073709551616).toNat).toNat : Int)) : List UInt64)), false⟩]))))))))))
    (.leaf ((.exit 0, mkSt 41 [(0, .one (.c (.slc 0 0 (b.length) 1 (.of 0) false))), (3, .one (.c (.slc 1 0 (out.length) 1 (.of 0) false))), (12, .one (.c (.slc 0 0 (b.length) 1 (.of 0) false))), (13, .one (.c (.int .i64 ((↑b.length : Int))))), (14, .one (.c (.int .i64 (i))))] [.live ⟨false, 0, 1, (.elts .u8 (b : List UInt8)), false⟩, .live ⟨true, 22, 1, (.elts .u64 (out : List UInt64)), false⟩])))) := by kernel_rfl
theorem tak_end (cF : List UInt64 → List UInt64) (b : List UInt8) (out : List UInt64) (i : Int) : endT (takE cF) oL 100 Try.f61 (takC.drop 4) (takSt b out i) =
  (.vc ((0 + out.length ≤ out.length ∧ out.length < 1125899906842624 ∧ 0 = 0 ∧ 1 = 1) ∧ tiny (List.take out.length (List.drop 0 out)))
    (.leaf (some ((List.take (cF (List.take out.length (List.drop 0 out))).length (cF (List.take out.length (List.drop 0 out))), (.p ((cF (List.take out.length (List.drop 0 out))).length ≤ (cF (List.take out.length (List.drop 0 out))).length))))))) := by kernel_rfl

/-! the document's Take -/
noncomputable abbrev rtkC : List Code := flat (codeOf Try.f62)
def rtkSt (b : List UInt8) (out : List UInt64) (i : Int) : St := mkSt 38 [(0, .one (.c (.slc 0 0 b.length 1 (.of 0) false))), (3, slV 1 out), (4, vI i)] [inHE eU8 b, ownL out]
noncomputable abbrev rtkE (cF : List UInt64 → List UInt64) : Env := Ens [(52, K1 aLc rL cF)] [52]
theorem rtk_start (cF : List UInt64 → List UInt64) (b : List UInt8) : stageG (rtkE cF) 100 (rtkC.take 3) (startSt Try.f62 [iB.av 0 b] [inHE eU8 b]) [0, 3, 4] [0, 1] [(0, .as), (3, .as), (4, .int)] [] [] =
  (.vc (0 + b.length * 1 ≤ (List.map EK.u8.cell b).length ∧ 0 < 1)
    (.vc (0 ≤ IntKind.i64.wrap ((IntKind.i64.wrap ((↑b.length : Int) + 7)).tdiv 8) ∧ IntKind.i64.wrap ((IntKind.i64.wrap ((↑b.length : Int) + 7)).tdiv 8) ≤ IntKind.i64.wrap ((IntKind.i64.wrap ((↑b.length : Int) + 7)).tdiv 8) ∧ (↑8 : Int) * IntKind.i64.wrap ((IntKind.i64.wrap ((↑b.length : Int) + 7)).tdiv 8) ≤ 281474976710656 ∧ IntKind.i64.wrap ((IntKind.i64.wrap ((↑b.length : Int) + 7)).tdiv 8) < 1125899906842624)
      (.leaf (mkSt 38 [(0, .one (.c (.slc 0 0 (b.length) 1 (.of 0) false))), (3, .one (.c (.slc 1 0 ((IntKind.i64.wrap ((IntKind.i64.wrap ((↑b.length : Int) + 7)).tdiv 8)).toNat) 1 (.of 0) false))), (4, .one (.c (.int .i64 0)))] [.live ⟨false, 0, 1, (.elts .u8 (b : List UInt8)), false⟩, .live ⟨true, 22, 1, (.elts .u64 (List.replicate (IntKind.i64.wrap ((IntKind.i64.wrap ((↑b.length : Int) + 7)).tdiv 8)).toNat 0 : List UInt64)), false⟩])))) := by kernel_rfl
theorem rtk_round (cF : List UInt64 → List UInt64) (b : List UInt8) (out : List UInt64) (i : Int) : roundT (rtkE cF) 100 (loopAt Try.f62 0) (rtkSt b out i) (same [0, 3, 4] [0, 1]) =
  (.vc (0 + b.length * 1 ≤ (List.map EK.u8.cell b).length ∧ 0 < 1)
    (.br (decide (i < (↑b.length : Int)))
      (.vc ((0 ≤ IntKind.i64.wrap (i.tdiv 8) ∧ IntKind.i64.wrap (i.tdiv 8) < (↑out.length : Int)) ∧ 0 + out.length * 1 ≤ (List.map EK.u64.cell out).length ∧ 0 < 1)
        (.vc (0 + (IntKind.i64.wrap (i.tdiv 8)).toNat * 1 < out.length)
          (.vc (0 + b.length * 1 ≤ (List.map EK.u8.cell b).length ∧ 0 < 1)
            (.vc ((0 ≤ IntKind.i64.wrap (IntKind.i64.wrap ((↑b.length : Int) - 1) - i) ∧ IntKind.i64.wrap (IntKind.i64.wrap ((↑b.length : Int) - 1) - i) < (↑b.length : Int)) ∧ 0 + b.length * 1 ≤ (List.map EK.u8.cell b).length ∧ 0 < 1)
              (.vc (0 + (IntKind.i64.wrap (IntKind.i64.wrap ((↑b.length : Int) - 1) - i)).toNat * 1 < b.length)
                (.vc (0 ≤ IntKind.i64.wrap (8 * i.tmod 8))
                  (.vc ((0 ≤ IntKind.i64.wrap (i.tdiv 8) ∧ IntKind.i64.wrap (i.tdiv 8) < (↑out.length : Int)) ∧ 0 + out.length * 1 ≤ (List.map EK.u64.cell out).length ∧ 0 < 1)
                    (.vc (0 + (IntKind.i64.wrap (i.tdiv 8)).toNat * 1 < out.length)
                      (.leaf ((.normal, mkSt 38 [(0, .one (.c (.slc 0 0 (b.length) 1 (.of 0) false))), (3, .one (.c (.slc 1 0 (out.length) 1 (.of 0) false))), (4, .one (.c (.int .i64 (IntKind.i64.wrap (i + 1)))))] [.live ⟨false, 0, 1, (.elts .u8 (b : List UInt8)), false⟩, .live ⟨true, 22, 1, (.elts .u64 (out.set (0 + (IntKind.i64.wrap (i.tdiv 8)).toNat * 1) (out.getD (0 + (IntKind.i64.wrap (i.tdiv 8)).toNat * 1) 0 + shlU (UInt8.toUInt64 (b.getD (0 + (IntKind.i64.wrap (IntKind.i64.wrap ((↑b.length : Int) - 1) - i)).toNat * 1) 0)) (IntKind.i64.wrap (8 * i.tmod 8))) : List UInt64)), false⟩])))))))))))
      (.leaf ((.exit 0, mkSt 38 [(0, .one (.c (.slc 0 0 (b.length) 1 (.of 0) false))), (3, .one (.c (.slc 1 0 (out.length) 1 (.of 0) false))), (4, .one (.c (.int .i64 (i))))] [.live ⟨false, 0, 1, (.elts .u8 (b : List UInt8)), false⟩, .live ⟨true, 22, 1, (.elts .u64 (out : List UInt64)), false⟩]))))) := by kernel_rfl
theorem rtk_end (cF : List UInt64 → List UInt64) (b : List UInt8) (out : List UInt64) (i : Int) : endT (rtkE cF) oL 100 Try.f62 (rtkC.drop 4) (rtkSt b out i) =
  (.vc ((0 + out.length ≤ out.length ∧ out.length < 1125899906842624 ∧ 0 = 0 ∧ 1 = 1) ∧ short (List.take out.length (List.drop 0 out)))
    (.leaf (some ((List.take (cF (List.take out.length (List.drop 0 out))).length (cF (List.take out.length (List.drop 0 out))), (.p ((cF (List.take out.length (List.drop 0 out))).length ≤ (cF (List.take out.length (List.drop 0 out))).length))))))) := by kernel_rfl

end Go.Proofs.Ytfkmooldindfjaa
