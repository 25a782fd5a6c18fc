/- Bytes of numbers: the writings. -/
import Derived.Test.YtfkmooldindfjaaFy
set_option linter.unusedSimpArgs false
set_option linter.unusedVariables false
namespace Go.Proofs.Ytfkmooldindfjaa
open Go.RowKit

abbrev rBI : Res (List UInt8 × Int) := resSl2 eU8 5
abbrev oBI : Out (List UInt8 × Int) := outSl2 eU8 5
abbrev rB : Res (List UInt8) := resSl eU8 5
abbrev oBl : Out (List UInt8) := outSl eU8 5
def ownB (xs : List UInt8) : HE := .live ⟨true, 5, 1, .elts .u8 xs, false⟩
def slB (i : Nat) (xs : List UInt8) : AV := .one (.c (.slc i 0 xs.length 1 (.of 0) false))

/-! limb.Put -/
noncomputable abbrev putE (cF : List UInt64 → List UInt64) : Env := Ens [(70, K1 aLt rL cF)] [70]
noncomputable abbrev putC : List Code := flat (codeOf Try.f63)
noncomputable abbrev putB : Code := loopAt Try.f63 0
noncomputable abbrev putI : Code := loopAt Try.f63 1
noncomputable abbrev putD : Code := match nth (flat putB) 2 with | some c => unblock c | none => .skip
theorem putB_split : (flat putB).drop 2 = .block 1 putD :: (flat putB).drop 3 := by kernel_rfl
theorem putB_last : ((flat putB).drop 3).drop 1 = [] := by kernel_rfl
theorem putD_split : (flat putD).drop 2 = .block 2 (.loop putI) :: [] := by kernel_rfl
def putSt (a : List UInt64) (n : Int) (out : List UInt8) (i : Int) : St := mkSt 60 [(1, vI n), (6, slB 1 out), (22, slV 0 a), (23, vI a.length), (24, vI i)] [ownL a, ownB out]
def putIn (a : List UInt64) (n : Int) (out : List UInt8) (i : Int) (x : UInt64) (k : Int) : St := mkSt 60 [(1, vI n), (6, slB 1 out), (7, vI i), (8, .one (.c (.u64 x))), (22, slV 0 a), (23, vI a.length), (24, vI i), (29, vI k)] [ownL a, ownB out]
theorem put_start (cF : List UInt64 → List UInt64) (a : List UInt64) (n : Int) : segT (putE cF) oBI 100 Try.f63 (putC.take 6) (startSt Try.f63 [iL.av 0 a, vI n] [inHE eU64 a]) [1, 6, 22, 23, 24] [1, 2] [(1, .as), (6, .as), (22, .as), (23, .int), (24, .int)] [] [] =
  (.vc ((0 + a.length ≤ a.length ∧ a.length < 1125899906842624 ∧ 0 = 0 ∧ 1 = 1) ∧ tiny (List.take a.length (List.drop 0 a)))
    (.br (decide (n < 0))
      (.leaf (.inr (some ((([], 8), .t)))))
      (.br (decide (n > 192))
        (.leaf (.inr (some ((([], 8), .t)))))
        (.vc (0 ≤ n ∧ n ≤ n ∧ (↑1 : Int) * n ≤ 281474976710656 ∧ n < 1125899906842624)
          (.vc (0 + (cF (List.take a.length (List.drop 0 a))).length * 1 ≤ (List.map EK.u64.cell (cF (List.take a.length (List.drop 0 a)))).length ∧ 0 < 1)
            (.leaf (.inl (mkSt 60 [(1, .one (.c (.int .i64 (n)))), (6, .one (.c (.slc 1 0 (n.toNat) 1 (.of 0) false))), (22, .one (.c (.slc 0 0 ((cF (List.take a.length (List.drop 0 a))).length) 1 (.of 0) false))), (23, .one (.c (.int .i64 ((↑(cF (List.take a.length (List.drop 0 a))).length : Int))))), (24, .one (.c (.int .i64 0)))] [.live ⟨true, 22, 1, (.elts .u64 (cF (List.take a.length (List.drop 0 a)) : List UInt64)), false⟩, .live ⟨true, 5, 1, (.elts .u8 (List.replicate n.toNat 0 : List UInt8)), false⟩])))))))) := by kernel_rfl
theorem put_head (cF : List UInt64 → List UInt64) (a : List UInt64) (n : Int) (out : List UInt8) (i : Int) : partT (putE cF) 100 ((flat putB).take 2) (putSt a n out i) (following [1, 6, 22, 23, 24] [0, 1] []) =
  (.br (decide (i < (↑a.length : Int)))
    (.leaf ((.normal, mkSt 60 [(1, .one (.c (.int .i64 (n)))), (6, .one (.c (.slc 1 0 (out.length) 1 (.of 0) false))), (22, .one (.c (.slc 0 0 (a.length) 1 (.of 0) false))), (23, .one (.c (.int .i64 ((↑a.length : Int))))), (24, .one (.c (.int .i64 (i))))] [.live ⟨true, 22, 1, (.elts .u64 (a : List UInt64)), false⟩, .live ⟨true, 5, 1, (.elts .u8 (out : List UInt8)), false⟩])))
    (.leaf ((.exit 0, mkSt 60 [(1, .one (.c (.int .i64 (n)))), (6, .one (.c (.slc 1 0 (out.length) 1 (.of 0) false))), (22, .one (.c (.slc 0 0 (a.length) 1 (.of 0) false))), (23, .one (.c (.int .i64 ((↑a.length : Int))))), (24, .one (.c (.int .i64 (i))))] [.live ⟨true, 22, 1, (.elts .u64 (a : List UInt64)), false⟩, .live ⟨true, 5, 1, (.elts .u8 (out : List UInt8)), false⟩])))) := by kernel_rfl
theorem put_in (cF : List UInt64 → List UInt64) (a : List UInt64) (n : Int) (out : List UInt8) (i : Int) : stageG (putE cF) 100 ((flat putD).take 2) (putSt a n out i) [1, 6, 7, 8, 22, 23, 24, 29] [0, 1] [(1, .as), (6, .as), (7, .as), (8, .as), (22, .as), (23, .as), (24, .as), (29, .int)] [] [] =
  (.vc ((0 ≤ i ∧ i < (↑a.length : Int)) ∧ 0 + a.length * 1 ≤ (List.map EK.u64.cell a).length ∧ 0 < 1)
    (.vc (0 + i.toNat * 1 < a.length)
      (.leaf (mkSt 60 [(1, .one (.c (.int .i64 (n)))), (6, .one (.c (.slc 1 0 (out.length) 1 (.of 0) false))), (7, .one (.c (.int .i64 (i)))), (8, .one (.c (.u64 (a.getD (0 + i.toNat * 1) 0)))), (22, .one (.c (.slc 0 0 (a.length) 1 (.of 0) false))), (23, .one (.c (.int .i64 ((↑a.length : Int))))), (24, .one (.c (.int .i64 (i)))), (29, .one (.c (.int .i64 0)))] [.live ⟨true, 22, 1, (.elts .u64 (a : List UInt64)), false⟩, .live ⟨true, 5, 1, (.elts .u8 (out : List UInt8)), false⟩])))) := by kernel_rfl
theorem put_round (cF : List UInt64 → List UInt64) (a : List UInt64) (n : Int) (out : List UInt8) (i : Int) (x : UInt64) (k : Int) : iterT (putE cF) oBI 100 Try.f63 [putI] (putIn a n out i x k) [1, 6, 7, 8, 22, 23, 24, 29] [0, 1] =
  (.br (decide (k < 8))
    (.br (decide (IntKind.i64.wrap (IntKind.i64.wrap (IntKind.i64.wrap (n - 1) - IntKind.i64.wrap (8 * i)) - k) < 0))
      (.br ((shrU x (↑(UInt64.ofNat (IntKind.i64.wrap (8 * k) % 18446744073709551616).toNat).toNat : Int)).toUInt8 != UInt8.ofNat 0)
        (.leaf (.inr (some ((([], 8), .t)))))
        (.br (decide (IntKind.i64.wrap (IntKind.i64.wrap (IntKind.i64.wrap (n - 1) - IntKind.i64.wrap (8 * i)) - k) ≥ 0))
          (.vc ((0 ≤ IntKind.i64.wrap (IntKind.i64.wrap (IntKind.i64.wrap (n - 1) - IntKind.i64.wrap (8 * i)) - k) ∧ IntKind.i64.wrap (IntKind.i64.wrap (IntKind.i64.wrap (n - 1) - IntKind.i64.wrap (8 * i)) - k) < (↑out.length : Int)) ∧ 0 + out.length * 1 ≤ (List.map EK.u8.cell out).length ∧ 0 < 1)
            (.vc (0 + (IntKind.i64.wrap (IntKind.i64.wrap (IntKind.i64.wrap (n - 1) - IntKind.i64.wrap (8 * i)) - k)).toNat * 1 < out.length)
              (.leaf (.inl ((.normal, mkSt 60 [(1, .one (.c (.int .i64 (n)))), (6, .one (.c (.slc 1 0 (out.length) 1 (.of 0) false))), (7, .one (.c (.int .i64 (i)))), (8, .one (.c (.u64 (x)))), (22, .one (.c (.slc 0 0 (a.length) 1 (.of 0) false))), (23, .one (.c (.int .i64 ((↑a.length : Int))))), (24, .one (.c (.int .i64 (i)))), (29, .one (.c (.int .i64 (IntKind.i64.wrap (k + 1)))))] [.live ⟨true, 22, 1, (.elts .u64 (a : List UInt64)), false⟩, .live ⟨true, 5, 1, (.elts .u8 (out.set (0 + (IntKind.i64.wrap (IntKind.i64.wrap (IntKind.i64.wrap (n - 1) - IntKind.i64.wrap (8 * i)) - k)).toNat * 1) (shrU x (↑(UInt64.ofNat (IntKind.i64.wrap (8 * k) % 18446744073709551616).toNat).toNat : Int)).toUInt8 : List UInt8)), false⟩]))))))
          (.leaf (.inl ((.normal, mkSt 60 [(1, .one (.c (.int .i64 (n)))), (6, .one (.c (.slc 1 0 (out.length) 1 (.of 0) false))), (7, .one (.c (.int .i64 (i)))), (8, .one (.c (.u64 (x)))), (22, .one (.c (.slc 0 0 (a.length) 1 (.of 0) false))), (23, .one (.c (.int .i64 ((↑a.length : Int))))), (24, .one (.c (.int .i64 (i)))), (29, .one (.c (.int .i64 (IntKind.i64.wrap (k + 1)))))] [.live ⟨true, 22, 1, (.elts .u64 (a : List UInt64)), false⟩, .live ⟨true, 5, 1, (.elts .u8 (out : List UInt8)), false⟩]))))))
      (.br (decide (IntKind.i64.wrap (IntKind.i64.wrap (IntKind.i64.wrap (n - 1) - IntKind.i64.wrap (8 * i)) - k) ≥ 0))
        (.vc ((0 ≤ IntKind.i64.wrap (IntKind.i64.wrap (IntKind.i64.wrap (n - 1) - IntKind.i64.wrap (8 * i)) - k) ∧ IntKind.i64.wrap (IntKind.i64.wrap (IntKind.i64.wrap (n - 1) - IntKind.i64.wrap (8 * i)) - k) < (↑out.length : Int)) ∧ 0 + out.length * 1 ≤ (List.map EK.u8.cell out).length ∧ 0 < 1)
          (.vc (0 + (IntKind.i64.wrap (IntKind.i64.wrap (IntKind.i64.wrap (n - 1) - IntKind.i64.wrap (8 * i)) - k)).toNat * 1 < out.length)
            (.leaf (.inl ((.normal, mkSt 60 [(1, .one (.c (.int .i64 (n)))), (6, .one (.c (.slc 1 0 (out.length) 1 (.of 0) false))), (7, .one (.c (.int .i64 (i)))), (8, .one (.c (.u64 (x)))), (22, .one (.c (.slc 0 0 (a.length) 1 (.of 0) false))), (23, .one (.c (.int .i64 ((↑a.length : Int))))), (24, .one (.c (.int .i64 (i)))), (29, .one (.c (.int .i64 (IntKind.i64.wrap (k + 1)))))] [.live ⟨true, 22, 1, (.elts .u64 (a : List UInt64)), false⟩, .live ⟨true, 5, 1, (.elts .u8 (out.set (0 + (IntKind.i64.wrap (IntKind.i64.wrap (IntKind.i64.wrap (n - 1) - IntKind.i64.wrap (8 * i)) - k)).toNat * 1) (shrU x (↑(UInt64.ofNat (IntKind.i64.wrap (8 * k) % 18446744073709551616).toNat).toNat : Int)).toUInt8 : List UInt8)), false⟩]))))))
        (.leaf (.inl ((.normal, mkSt 60 [(1, .one (.c (.int .i64 (n)))), (6, .one (.c (.slc 1 0 (out.length) 1 (.of 0) false))), (7, .one (.c (.int .i64 (i)))), (8, .one (.c (.u64 (x)))), (22, .one (.c (.slc 0 0 (a.length) 1 (.of 0) false))), (23, .one (.c (.int .i64 ((↑a.length : Int))))), (24, .one (.c (.int .i64 (i)))), (29, .one (.c (.int .i64 (IntKind.i64.wrap (k + 1)))))] [.live ⟨true, 22, 1, (.elts .u64 (a : List UInt64)), false⟩, .live ⟨true, 5, 1, (.elts .u8 (out : List UInt8)), false⟩]))))))
    (.leaf (.inl ((.exit 2, mkSt 60 [(1, .one (.c (.int .i64 (n)))), (6, .one (.c (.slc 1 0 (out.length) 1 (.of 0) false))), (7, .one (.c (.int .i64 (i)))), (8, .one (.c (.u64 (x)))), (22, .one (.c (.slc 0 0 (a.length) 1 (.of 0) false))), (23, .one (.c (.int .i64 ((↑a.length : Int))))), (24, .one (.c (.int .i64 (i)))), (29, .one (.c (.int .i64 (k))))] [.live ⟨true, 22, 1, (.elts .u64 (a : List UInt64)), false⟩, .live ⟨true, 5, 1, (.elts .u8 (out : List UInt8)), false⟩]))))) := by kernel_rfl
theorem put_next (cF : List UInt64 → List UInt64) (a : List UInt64) (n : Int) (out : List UInt8) (i : Int) (x : UInt64) (k : Int) : partT (putE cF) 100 (((flat putB).drop 3).take 1) (putIn a n out i x k) (following [1, 6, 22, 23, 24] [0, 1] []) =
  (.leaf ((.normal, mkSt 60 [(1, .one (.c (.int .i64 (n)))), (6, .one (.c (.slc 1 0 (out.length) 1 (.of 0) false))), (22, .one (.c (.slc 0 0 (a.length) 1 (.of 0) false))), (23, .one (.c (.int .i64 ((↑a.length : Int))))), (24, .one (.c (.int .i64 (IntKind.i64.wrap (i + 1)))))] [.live ⟨true, 22, 1, (.elts .u64 (a : List UInt64)), false⟩, .live ⟨true, 5, 1, (.elts .u8 (out : List UInt8)), false⟩]))) := by kernel_rfl
theorem put_end (cF : List UInt64 → List UInt64) (a : List UInt64) (n : Int) (out : List UInt8) (i : Int) : endT (putE cF) oBI 100 Try.f63 (putC.drop 7) (putSt a n out i) =
  (.leaf (some (((List.take out.length out, 0), (.p (out.length ≤ out.length)))))) := by kernel_rfl

/-! the document's Put -/
noncomputable abbrev rputE (cF : List UInt64 → List UInt64) (lF : List UInt64 → Nat → UInt64) : Env := Ens [(52, K1 aLc rL cF), (51, K2 aL argNat kU64.rs.res lF)] [52]
noncomputable abbrev rputC : List Code := flat (codeOf Try.f64)
def rputSt (a : List UInt64) (n i : Int) : St := mkSt 59 [(0, slV 0 a), (1, vI n), (6, vI i)] [ownL a]
def rputTo (a : List UInt64) (n : Int) (out : List UInt8) (i : Int) : St := mkSt 59 [(0, slV 0 a), (1, vI n), (7, slB 1 out), (8, vI i)] [ownL a, ownB out]
theorem rput_start (cF : List UInt64 → List UInt64) (lF : List UInt64 → Nat → UInt64) (a : List UInt64) (n : Int) : segT (rputE cF lF) oBI 100 Try.f64 (rputC.take 5) (startSt Try.f64 [iL.av 0 a, vI n] [inHE eU64 a]) [0, 1, 6] [1] [(0, .as), (1, .as), (6, .as)] [] [] =
  (.vc ((0 + a.length ≤ a.length ∧ a.length < 1125899906842624 ∧ 0 = 0 ∧ 1 = 1) ∧ short (List.take a.length (List.drop 0 a)))
    (.br (decide (n < 0))
      (.leaf (.inr (some ((([], 8), .t)))))
      (.br (decide (n > 192))
        (.leaf (.inr (some ((([], 8), .t)))))
        (.leaf (.inl (mkSt 59 [(0, .one (.c (.slc 0 0 ((cF (List.take a.length (List.drop 0 a))).length) 1 (.of 0) false))), (1, .one (.c (.int .i64 (n)))), (6, .one (.c (.int .i64 (n))))] [.live ⟨true, 22, 1, (.elts .u64 (cF (List.take a.length (List.drop 0 a)) : List UInt64)), false⟩])))))) := by kernel_rfl
theorem rput_round (cF : List UInt64 → List UInt64) (lF : List UInt64 → Nat → UInt64) (a : List UInt64) (n i : Int) : iterT (rputE cF lF) oBI 100 Try.f64 [loopAt Try.f64 0] (rputSt a n i) [0, 1, 6] [0] =
  (.vc (0 + a.length * 1 ≤ (List.map EK.u64.cell a).length ∧ 0 < 1)
    (.br (decide (i < IntKind.i64.wrap (8 * (↑a.length : Int))))
      (.vc ((0 ≤ IntKind.i64.wrap (i.tdiv 8) ∧ IntKind.i64.wrap (i.tdiv 8) < (↑a.length : Int)) ∧ 0 + a.length * 1 ≤ (List.map EK.u64.cell a).length ∧ 0 < 1)
        (.vc (0 + (IntKind.i64.wrap (i.tdiv 8)).toNat * 1 < a.length)
          (.vc (0 ≤ IntKind.i64.wrap (8 * i.tmod 8))
            (.br ((shrU (a.getD (0 + (IntKind.i64.wrap (i.tdiv 8)).toNat * 1) 0) (IntKind.i64.wrap (8 * i.tmod 8))).toUInt8 != UInt8.ofNat 0)
              (.leaf (.inr (some ((([], 8), .t)))))
              (.leaf (.inl ((.normal, mkSt 59 [(0, .one (.c (.slc 0 0 (a.length) 1 (.of 0) false))), (1, .one (.c (.int .i64 (n)))), (6, .one (.c (.int .i64 (IntKind.i64.wrap (i + 1)))))] [.live ⟨true, 22, 1, (.elts .u64 (a : List UInt64)), false⟩]))))))))
      (.leaf (.inl ((.exit 0, mkSt 59 [(0, .one (.c (.slc 0 0 (a.length) 1 (.of 0) false))), (1, .one (.c (.int .i64 (n)))), (6, .one (.c (.int .i64 (i))))] [.live ⟨true, 22, 1, (.elts .u64 (a : List UInt64)), false⟩])))))) := by kernel_rfl
theorem rput_mid (cF : List UInt64 → List UInt64) (lF : List UInt64 → Nat → UInt64) (a : List UInt64) (n i : Int) : stageG (rputE cF lF) 100 ((rputC.drop 6).take 2) (rputSt a n i) [0, 1, 7, 8] [0, 1] [(0, .as), (1, .as), (7, .as), (8, .int)] [] [] =
  (.vc (0 ≤ n ∧ n ≤ n ∧ (↑1 : Int) * n ≤ 281474976710656 ∧ n < 1125899906842624)
    (.leaf (mkSt 59 [(0, .one (.c (.slc 0 0 (a.length) 1 (.of 0) false))), (1, .one (.c (.int .i64 (n)))), (7, .one (.c (.slc 1 0 (n.toNat) 1 (.of 0) false))), (8, .one (.c (.int .i64 0)))] [.live ⟨true, 22, 1, (.elts .u64 (a : List UInt64)), false⟩, .live ⟨true, 5, 1, (.elts .u8 (List.replicate n.toNat 0 : List UInt8)), false⟩]))) := by kernel_rfl
theorem rput_fill (cF : List UInt64 → List UInt64) (lF : List UInt64 → Nat → UInt64) (a : List UInt64) (n : Int) (out : List UInt8) (i : Int) : roundT (rputE cF lF) 100 (loopAt Try.f64 1) (rputTo a n out i) (same [0, 1, 7, 8] [0, 1]) =
  (.br (decide (i < n))
    (.vc ((0 + a.length ≤ a.length ∧ a.length < 1125899906842624 ∧ 0 = 0 ∧ 1 = 1) ∧ 0 ≤ IntKind.i64.wrap (i.tdiv 8))
      (.vc (0 ≤ IntKind.i64.wrap (8 * i.tmod 8))
        (.vc ((0 ≤ IntKind.i64.wrap (IntKind.i64.wrap (n - 1) - i) ∧ IntKind.i64.wrap (IntKind.i64.wrap (n - 1) - i) < (↑out.length : Int)) ∧ 0 + out.length * 1 ≤ (List.map EK.u8.cell out).length ∧ 0 < 1)
          (.vc (0 + (IntKind.i64.wrap (IntKind.i64.wrap (n - 1) - i)).toNat * 1 < out.length)
            (.leaf ((.normal, mkSt 59 [(0, .one (.c (.slc 0 0 (a.length) 1 (.of 0) false))), (1, .one (.c (.int .i64 (n)))), (7, .one (.c (.slc 1 0 (out.length) 1 (.of 0) false))), (8, .one (.c (.int .i64 (IntKind.i64.wrap (i + 1)))))] [.live ⟨true, 22, 1, (.elts .u64 (a : List UInt64)), false⟩, .live ⟨true, 5, 1, (.elts .u8 (out.set (0 + (IntKind.i64.wrap (IntKind.i64.wrap (n - 1) - i)).toNat * 1) (shrU (lF (List.take a.length (List.drop 0 a)) (IntKind.i64.wrap (i.tdiv 8)).toNat) (IntKind.i64.wrap (8 * i.tmod 8))).toUInt8 : List UInt8)), false⟩])))))))
    (.leaf ((.exit 2, mkSt 59 [(0, .one (.c (.slc 0 0 (a.length) 1 (.of 0) false))), (1, .one (.c (.int .i64 (n)))), (7, .one (.c (.slc 1 0 (out.length) 1 (.of 0) false))), (8, .one (.c (.int .i64 (i))))] [.live ⟨true, 22, 1, (.elts .u64 (a : List UInt64)), false⟩, .live ⟨true, 5, 1, (.elts .u8 (out : List UInt8)), false⟩])))) := by kernel_rfl
theorem rput_end (cF : List UInt64 → List UInt64) (lF : List UInt64 → Nat → UInt64) (a : List UInt64) (n : Int) (out : List UInt8) (i : Int) : endT (rputE cF lF) oBI 100 Try.f64 (rputC.drop 9) (rputTo a n out i) =
  (.leaf (some (((List.take out.length out, 0), (.p (out.length ≤ out.length)))))) := by kernel_rfl

end Go.Proofs.Ytfkmooldindfjaa
