/- The document's Rest: what is left of a number by a modulus, bit by bit. -/
import Derived.Test.YtfkmooldindfjaaEE
import Derived.Test.YtfkmooldindfjaaMk
import Derived.Test.YtfkmooldindfjaaFC
set_option linter.unusedSimpArgs false
set_option linter.unusedVariables false
namespace Go.Proofs.Ytfkmooldindfjaa
open Go.RowKit

noncomputable abbrev restE (cF : List UInt64 → List UInt64) (sF : List UInt64 → List UInt64 → List UInt64) (bF : List UInt64 → Nat → UInt64) (kF : List UInt64 → List UInt64 → Int) (lF : List UInt64 → List UInt64 → List UInt64 × Int) : Env :=
  Ens [(52, K1 aLc rL cF), (23, K2 aLt aLt rL sF), (48, K2 aL argIdx kU64.rs.res bF), (33, K2 aLc aLc kInt.rs.res kF), (21, K2 aLt aLt rLI lF)]
    [52, 23, 21]
theorem restE_ok : EnvOk (restE cutF sumF bitF cmpR rlessF) := Ens_ok (.cons cut_ok (.cons rsum_ok (.cons bit_ok (.cons rcmp_ok (.cons rless_ok .nil)))))
noncomputable abbrev restC : List Code := flat (codeOf Try.f58)
noncomputable abbrev restB : Code := loopAt Try.f58 0
def restSt (a m r : List UInt64) (z : Int) : St := mkSt 43 [(0, inV 0 a), (1, slV 1 m), (6, slV 2 r), (7, vI z)] [inHE eU64 a, ownL m, ownL r]
theorem rest_start (cF : List UInt64 → List UInt64) (sF : List UInt64 → List UInt64 → List UInt64) (bF : List UInt64 → Nat → UInt64) (kF : List UInt64 → List UInt64 → Int) (lF : List UInt64 → List UInt64 → List UInt64 × Int) (a m : List UInt64) : segT (restE cF sF bF kF lF) oLI 100 Try.f58 (restC.take 6) (startSt Try.f58 [iL.av 0 a, iL.av 1 m] [inHE eU64 a, inHE eU64 m]) [0, 1, 6, 7] [0, 2] [(0, .as), (1, .as), (6, .nil 2), (7, .int)] [] [(22, .u64)] =
  (.vc ((0 + m.length ≤ m.length ∧ m.length < 1125899906842624 ∧ 0 = 0 ∧ 1 = 1) ∧ short (List.take m.length (List.drop 0 m)))
    (.vc (0 + (cF (List.take m.length (List.drop 0 m))).length * 1 ≤ (List.map EK.u64.cell (cF (List.take m.length (List.drop 0 m)))).length ∧ 0 < 1)
      (.br ((↑(cF (List.take m.length (List.drop 0 m))).length : Int) == 0)
        (.leaf (.inr (some ((([], 7), .t)))))
        (.vc (0 + a.length * 1 ≤ (List.map EK.u64.cell a).length ∧ 0 < 1)
          (.leaf (.inl (mkSt 43 [(0, .one (.c (.slc 0 0 (a.length) 1 (.of 0) false))), (1, .one (.c (.slc 1 0 ((cF (List.take m.length (List.drop 0 m))).length) 1 (.of 0) false))), (6, .one (.c (.slc 2 0 0 1 (.of 0) false))), (7, .one (.c (.int .i64 (IntKind.i64.wrap (IntKind.i64.wrap (64 * (↑a.length : Int)) - 1)))))] [.live ⟨false, 0, 1, (.elts .u64 (a : List UInt64)), false⟩, .live ⟨true, 22, 1, (.elts .u64 (cF (List.take m.length (List.drop 0 m)) : List UInt64)), false⟩, .live ⟨true, 22, 1, (.elts .u64 ([] : List UInt64)), false⟩]))))))) := by kernel_rfl
theorem rest_round (cF : List UInt64 → List UInt64) (sF : List UInt64 → List UInt64 → List UInt64) (bF : List UInt64 → Nat → UInt64) (kF : List UInt64 → List UInt64 → Int) (lF : List UInt64 → List UInt64 → List UInt64 × Int) (a m r : List UInt64) (z : Int) : roundP (restE cF sF bF kF lF) 100 restB (restSt a m r z) (following [0, 1, 6, 7] [0, 1] [6]) =
  (.br (decide (z ≥ 0))
    (.vc (((0 + r.length ≤ r.length ∧ r.length < 1125899906842624 ∧ 0 = 0 ∧ 1 = 1) ∧ tiny (List.take r.length (List.drop 0 r))) ∧ (0 + r.length ≤ r.length ∧ r.length < 1125899906842624 ∧ 0 = 0 ∧ 1 = 1) ∧ tiny (List.take r.length (List.drop 0 r)))
      (.vc ((0 + a.length ≤ a.length ∧ a.length < 1125899906842624 ∧ 0 = 0 ∧ 1 = 1) ∧ 0 ≤ z ∧ z < 9223372036854775808)
        (.br (bF (List.take a.length (List.drop 0 a)) z.toNat == UInt64.ofNat 1)
          (.vc (((0 + (sF (List.take r.length (List.drop 0 r)) (List.take r.length (List.drop 0 r))).length ≤ (sF (List.take r.length (List.drop 0 r)) (List.take r.length (List.drop 0 r))).length ∧ (sF (List.take r.length (List.drop 0 r)) (List.take r.length (List.drop 0 r))).length < 1125899906842624 ∧ 0 = 0 ∧ 1 = 1) ∧ tiny (List.take (sF (List.take r.length (List.drop 0 r)) (List.take r.length (List.drop 0 r))).length (List.drop 0 (sF (List.take r.length (List.drop 0 r)) (List.take r.length (List.drop 0 r)))))) ∧ tiny [UInt64.ofNat 1])
            (.vc (((0 + (sF (List.take (sF (List.take r.length (List.drop 0 r)) (List.take r.length (List.drop 0 r))).length (List.drop 0 (sF (List.take r.length (List.drop 0 r)) (List.take r.length (List.drop 0 r))))) [UInt64.ofNat 1]).length ≤ (sF (List.take (sF (List.take r.length (List.drop 0 r)) (List.take r.length (List.drop 0 r))).length (List.drop 0 (sF (List.take r.length (List.drop 0 r)) (List.take r.length (List.drop 0 r))))) [UInt64.ofNat 1]).length ∧ (sF (List.take (sF (List.take r.length (List.drop 0 r)) (List.take r.length (List.drop 0 r))).length (List.drop 0 (sF (List.take r.length (List.drop 0 r)) (List.take r.length (List.drop 0 r))))) [UInt64.ofNat 1]).length < 1125899906842624 ∧ 0 = 0 ∧ 1 = 1) ∧ short (List.take (sF (List.take (sF (List.take r.length (List.drop 0 r)) (List.take r.length (List.drop 0 r))).length (List.drop 0 (sF (List.take r.length (List.drop 0 r)) (List.take r.length (List.drop 0 r))))) [UInt64.ofNat 1]).length (List.drop 0 (sF (List.take (sF (List.take r.length (List.drop 0 r)) (List.take r.length (List.drop 0 r))).length (List.drop 0 (sF (List.take r.length (List.drop 0 r)) (List.take r.length (List.drop 0 r))))) [UInt64.ofNat 1])))) ∧ (0 + m.length ≤ m.length ∧ m.length < 1125899906842624 ∧ 0 = 0 ∧ 1 = 1) ∧ short (List.take m.length (List.drop 0 m)))
              (.br (decide (kF (List.take (sF (List.take (sF (List.take r.length (List.drop 0 r)) (List.take r.length (List.drop 0 r))).length (List.drop 0 (sF (List.take r.length (List.drop 0 r)) (List.take r.length (List.drop 0 r))))) [UInt64.ofNat 1]).length (List.drop 0 (sF (List.take (sF (List.take r.length (List.drop 0 r)) (List.take r.length (List.drop 0 r))).length (List.drop 0 (sF (List.take r.length (List.drop 0 r)) (List.take r.length (List.drop 0 r))))) [UInt64.ofNat 1]))) (List.take m.length (List.drop 0 m)) ≥ 0))
                (.vc (((0 + (sF (List.take (sF (List.take r.length (List.drop 0 r)) (List.take r.length (List.drop 0 r))).length (List.drop 0 (sF (List.take r.length (List.drop 0 r)) (List.take r.length (List.drop 0 r))))) [UInt64.ofNat 1]).length ≤ (sF (List.take (sF (List.take r.length (List.drop 0 r)) (List.take r.length (List.drop 0 r))).length (List.drop 0 (sF (List.take r.length (List.drop 0 r)) (List.take r.length (List.drop 0 r))))) [UInt64.ofNat 1]).length ∧ (sF (List.take (sF (List.take r.length (List.drop 0 r)) (List.take r.length (List.drop 0 r))).length (List.drop 0 (sF (List.take r.length (List.drop 0 r)) (List.take r.length (List.drop 0 r))))) [UInt64.ofNat 1]).length < 1125899906842624 ∧ 0 = 0 ∧ 1 = 1) ∧ tiny (List.take (sF (List.take (sF (List.take r.length (List.drop 0 r)) (List.take r.length (List.drop 0 r))).length (List.drop 0 (sF (List.take r.length (List.drop 0 r)) (List.take r.length (List.drop 0 r))))) [UInt64.ofNat 1]).length (List.drop 0 (sF (List.take (sF (List.take r.length (List.drop 0 r)) (List.take r.length (List.drop 0 r))).length (List.drop 0 (sF (List.take r.length (List.drop 0 r)) (List.take r.length (List.drop 0 r))))) [UInt64.ofNat 1])))) ∧ (0 + m.length ≤ m.length ∧ m.length < 1125899906842624 ∧ 0 = 0 ∧ 1 = 1) ∧ tiny (List.take m.length (List.drop 0 m)))
                  (.leaf ((.normal, mkSt 43 [(0, .one (.c (.slc 0 0 (a.length) 1 (.of 0) false))), (1, .one (.c (.slc 1 0 (m.length) 1 (.of 0) false))), (6, .one (.c (.slc 2 0 ((lF (List.take (sF (List.take (sF (List.take r.length (List.drop 0 r)) (List.take r.length (List.drop 0 r))).length (List.drop 0 (sF (List.take r.length (List.drop 0 r)) (List.take r.length (List.drop 0 r))))) [UInt64.ofNat 1]).length (List.drop 0 (sF (List.take (sF (List.take r.length (List.drop 0 r)) (List.take r.length (List.drop 0 r))).length (List.drop 0 (sF (List.take r.length (List.drop 0 r)) (List.take r.length (List.drop 0 r))))) [UInt64.ofNat 1]))) (List.take m.length (List.drop 0 m))).fst.length) 1 (.of 0) false))), (7, .one (.c (.int .i64 (IntKind.i64.wrap (z - 1)))))] [.live ⟨false, 0, 1, (.elts .u64 (a : List UInt64)), false⟩, .live ⟨true, 22, 1, (.elts .u64 (m : List UInt64)), false⟩, .live ⟨true, 22, 1, (.elts .u64 ((lF (List.take (sF (List.take (sF (List.take r.length (List.drop 0 r)) (List.take r.length (List.drop 0 r))).length (List.drop 0 (sF (List.take r.length (List.drop 0 r)) (List.take r.length (List.drop 0 r))))) [UInt64.ofNat 1]).length (List.drop 0 (sF (List.take (sF (List.take r.length (List.drop 0 r)) (List.take r.length (List.drop 0 r))).length (List.drop 0 (sF (List.take r.length (List.drop 0 r)) (List.take r.length (List.drop 0 r))))) [UInt64.ofNat 1]))) (List.take m.length (List.drop 0 m))).fst : List UInt64)), false⟩]))))
                (.leaf ((.normal, mkSt 43 [(0, .one (.c (.slc 0 0 (a.length) 1 (.of 0) false))), (1, .one (.c (.slc 1 0 (m.length) 1 (.of 0) false))), (6, .one (.c (.slc 2 0 ((sF (List.take (sF (List.take r.length (List.drop 0 r)) (List.take r.length (List.drop 0 r))).length (List.drop 0 (sF (List.take r.length (List.drop 0 r)) (List.take r.length (List.drop 0 r))))) [UInt64.ofNat 1]).length) 1 (.of 0) false))), (7, .one (.c (.int .i64 (IntKind.i64.wrap (z - 1)))))] [.live ⟨false, 0, 1, (.elts .u64 (a : List UInt64)), false⟩, .live ⟨true, 22, 1, (.elts .u64 (m : List UInt64)), false⟩, .live ⟨true, 22, 1, (.elts .u64 (sF (List.take (sF (List.take r.length (List.drop 0 r)) (List.take r.length (List.drop 0 r))).length (List.drop 0 (sF (List.take r.length (List.drop 0 r)) (List.take r.length (List.drop 0 r))))) [UInt64.ofNat 1] : List UInt64)), false⟩]))))))
          (.vc (((0 + (sF (List.take r.length (List.drop 0 r)) (List.take r.length (List.drop 0 r))).length ≤ (sF (List.take r.length (List.drop 0 r)) (List.take r.length (List.drop 0 r))).length ∧ (sF (List.take r.length (List.drop 0 r)) (List.take r.length (List.drop 0 r))).length < 1125899906842624 ∧ 0 = 0 ∧ 1 = 1) ∧ short (List.take (sF (List.take r.length (List.drop 0 r)) (List.take r.length (List.drop 0 r))).length (List.drop 0 (sF (List.take r.length (List.drop 0 r)) (List.take r.length (List.drop 0 r)))))) ∧ (0 + m.length ≤ m.length ∧ m.length < 1125899906842624 ∧ 0 = 0 ∧ 1 = 1) ∧ short (List.take m.length (List.drop 0 m)))
            (.br (decide (kF (List.take (sF (List.take r.length (List.drop 0 r)) (List.take r.length (List.drop 0 r))).length (List.drop 0 (sF (List.take r.length (List.drop 0 r)) (List.take r.length (List.drop 0 r))))) (List.take m.length (List.drop 0 m)) ≥ 0))
              (.vc (((0 + (sF (List.take r.length (List.drop 0 r)) (List.take r.length (List.drop 0 r))).length ≤ (sF (List.take r.length (List.drop 0 r)) (List.take r.length (List.drop 0 r))).length ∧ (sF (List.take r.length (List.drop 0 r)) (List.take r.length (List.drop 0 r))).length < 1125899906842624 ∧ 0 = 0 ∧ 1 = 1) ∧ tiny (List.take (sF (List.take r.length (List.drop 0 r)) (List.take r.length (List.drop 0 r))).length (List.drop 0 (sF (List.take r.length (List.drop 0 r)) (List.take r.length (List.drop 0 r)))))) ∧ (0 + m.length ≤ m.length ∧ m.length < 1125899906842624 ∧ 0 = 0 ∧ 1 = 1) ∧ tiny (List.take m.length (List.drop 0 m)))
                (.leaf ((.normal, mkSt 43 [(0, .one (.c (.slc 0 0 (a.length) 1 (.of 0) false))), (1, .one (.c (.slc 1 0 (m.length) 1 (.of 0) false))), (6, .one (.c (.slc 2 0 ((lF (List.take (sF (List.take r.length (List.drop 0 r)) (List.take r.length (List.drop 0 r))).length (List.drop 0 (sF (List.take r.length (List.drop 0 r)) (List.take r.length (List.drop 0 r))))) (List.take m.length (List.drop 0 m))).fst.length) 1 (.of 0) false))), (7, .one (.c (.int .i64 (IntKind.i64.wrap (z - 1)))))] [.live ⟨false, 0, 1, (.elts .u64 (a : List UInt64)), false⟩, .live ⟨true, 22, 1, (.elts .u64 (m : List UInt64)), false⟩, .live ⟨true, 22, 1, (.elts .u64 ((lF (List.take (sF (List.take r.length (List.drop 0 r)) (List.take r.length (List.drop 0 r))).length (List.drop 0 (sF (List.take r.length (List.drop 0 r)) (List.take r.length (List.drop 0 r))))) (List.take m.length (List.drop 0 m))).fst : List UInt64)), false⟩]))))
              (.leaf ((.normal, mkSt 43 [(0, .one (.c (.slc 0 0 (a.length) 1 (.of 0) false))), (1, .one (.c (.slc 1 0 (m.length) 1 (.of 0) false))), (6, .one (.c (.slc 2 0 ((sF (List.take r.length (List.drop 0 r)) (List.take r.length (List.drop 0 r))).length) 1 (.of 0) false))), (7, .one (.c (.int .i64 (IntKind.i64.wrap (z - 1)))))] [.live ⟨false, 0, 1, (.elts .u64 (a : List UInt64)), false⟩, .live ⟨true, 22, 1, (.elts .u64 (m : List UInt64)), false⟩, .live ⟨true, 22, 1, (.elts .u64 (sF (List.take r.length (List.drop 0 r)) (List.take r.length (List.drop 0 r)) : List UInt64)), false⟩]))))))))
    (.leaf ((.exit 0, mkSt 43 [(0, .one (.c (.slc 0 0 (a.length) 1 (.of 0) false))), (1, .one (.c (.slc 1 0 (m.length) 1 (.of 0) false))), (6, .one (.c (.slc 2 0 (r.length) 1 (.of 0) false))), (7, .one (.c (.int .i64 (z))))] [.live ⟨false, 0, 1, (.elts .u64 (a : List UInt64)), false⟩, .live ⟨true, 22, 1, (.elts .u64 (m : List UInt64)), false⟩, .live ⟨true, 22, 1, (.elts .u64 (r : List UInt64)), false⟩])))) := by kernel_rfl
theorem rest_end (cF : List UInt64 → List UInt64) (sF : List UInt64 → List UInt64 → List UInt64) (bF : List UInt64 → Nat → UInt64) (kF : List UInt64 → List UInt64 → Int) (lF : List UInt64 → List UInt64 → List UInt64 × Int) (a m r : List UInt64) (z : Int) : endT (restE cF sF bF kF lF) oLI 100 Try.f58 (restC.drop 7) (restSt a m r z) =
  (.vc ((0 + r.length ≤ r.length ∧ r.length < 1125899906842624 ∧ 0 = 0 ∧ 1 = 1) ∧ short (List.take r.length (List.drop 0 r)))
    (.leaf (some (((List.take (cF (List.take r.length (List.drop 0 r))).length (cF (List.take r.length (List.drop 0 r))), 0), (.p ((cF (List.take r.length (List.drop 0 r))).length ≤ (cF (List.take r.length (List.drop 0 r))).length))))))) := by kernel_rfl

/-! what it comes to -/

theorem cutF_idem (xs : List UInt64) : cutF (cutF xs) = cutF xs := by
  have h1 := cutN_top xs xs.length
  have h2 := cutF_length xs
  unfold cutF at h2 ⊢
  generalize hn : cutN xs xs.length = n at *
  have h3 : cutN (xs.take n) (xs.take n).length = n := by
    rw [h2]
    cases n with
    | zero => rfl
    | succ k =>
      unfold cutN
      rw [atF_take xs (Nat.lt_succ_self k), if_neg (by simpa using h1 (Nat.succ_pos k))]
  rw [h3, List.take_take, Nat.min_self]

def Normal (xs : List UInt64) : Prop := cutF xs = xs
theorem normal_sum (xs ys : List UInt64) : Normal (sumF xs ys) := cutF_idem _
theorem normal_less {xs ys : List UInt64} : Normal (rlessF xs ys).1 := by
  unfold rlessF
  split
  · rfl
  · exact cutF_idem _
theorem normal_len {xs : List UInt64} (h : Normal xs) {k : Nat} (hk : valL xs < W64 ^ k) : xs.length ≤ k := by
  rcases Nat.lt_or_ge k xs.length with h1 | h1
  · have h2 := cut_lower xs (by rw [h]; omega)
    rw [h] at h2
    have h3 : W64 ^ k ≤ W64 ^ (xs.length - 1) := Nat.pow_le_pow_right (by decide) (by omega)
    omega
  · exact h1
theorem valL_lt (xs : List UInt64) : valL xs < W64 ^ xs.length := valAt_lt _ _
theorem valL_one : valL [1] = 1 := by decide +kernel

def downF (m s : List UInt64) : List UInt64 := match decide (cmpR s m ≥ 0) with | true => (rlessF s m).1 | false => s
theorem downF_yes {m s : List UInt64} (h : decide (cmpR s m ≥ 0) = true) : downF m s = (rlessF s m).1 := by unfold downF; rw [h]
theorem downF_no {m s : List UInt64} (h : decide (cmpR s m ≥ 0) = false) : downF m s = s := by unfold downF; rw [h]
def restStep (m : List UInt64) (b : Bool) (r : List UInt64) : List UInt64 :=
  match b with
  | true => downF m (sumF (sumF r r) [1])
  | false => downF m (sumF r r)
def restAt (a m : List UInt64) : Nat → List UInt64 → List UInt64
  | 0, r => r
  | n + 1, r => restAt a m n (restStep m (bitAt a n) r)
def restF (a m : List UInt64) : List UInt64 × Int := match ((cutF m).length : Int) == 0 with
  | true => ([], 7)
  | false => (cutF (restAt a (cutF m) (64 * a.length) []), 0)

def RI (m r : List UInt64) : Prop := Normal r ∧ valL r < valL m
theorem cmp_ge (xs ys : List UInt64) : decide (cmpR xs ys ≥ 0) = decide (valL ys ≤ valL xs) := by
  rw [cmpR_val]
  refine decide_eq_decide.2 ?_
  split
  · omega
  · split <;> omega
theorem down (m s : List UInt64) (hs : Normal s) (h : valL s < 2 * valL m) : RI m (downF m s) ∧ valL (downF m s) = valL s % valL m := by
  have hd := cmp_ge s m
  by_cases hc : valL m ≤ valL s
  · rw [decide_eq_true hc] at hd
    have h1 := rlessF_val hc
    rw [downF_yes hd]
    refine ⟨⟨normal_less, by omega⟩, ?_⟩
    rw [← h1, Nat.add_mod_right, Nat.mod_eq_of_lt (by omega)]
  · rw [decide_eq_false hc] at hd
    rw [downF_no hd]
    exact ⟨⟨hs, by omega⟩, (Nat.mod_eq_of_lt (by omega)).symm⟩
theorem restStep_spec {m r : List UInt64} (h : RI m r) (b : Bool) : RI m (restStep m b r) ∧ valL (restStep m b r) = (2 * valL r + b.toNat) % valL m := by
  obtain ⟨h1, h2⟩ := h
  cases b with
  | true =>
    have e : valL (sumF (sumF r r) [1]) = 2 * valL r + 1 := by rw [sumF_val, sumF_val, valL_one]; omega
    have := down m (sumF (sumF r r) [1]) (normal_sum _ _) (by omega)
    rw [e] at this
    exact this
  | false =>
    have e : valL (sumF r r) = 2 * valL r := by rw [sumF_val]; omega
    have := down m (sumF r r) (normal_sum _ _) (by omega)
    rw [e] at this
    exact this
theorem restAt_spec {a m : List UInt64} : ∀ {n : Nat} {r : List UInt64}, RI m r → RI m (restAt a m n r) ∧ valL (restAt a m n r) = (valL r * 2 ^ n + eLow a n) % valL m
  | 0, r, h => ⟨h, by simp only [restAt, eLow, Nat.pow_zero, Nat.mul_one, Nat.add_zero]; exact (Nat.mod_eq_of_lt h.2).symm⟩
  | n + 1, r, h => by
    obtain ⟨h1, h2⟩ := restStep_spec h (bitAt a n)
    obtain ⟨h3, h4⟩ := restAt_spec (a := a) (n := n) h1
    refine ⟨h3, ?_⟩
    simp only [restAt, eLow]
    rw [h4, h2, Nat.add_mod, Nat.mod_mul_mod, ← Nat.add_mod, Nat.add_mul]
    refine congrArg (fun z => z % valL m) ?_
    rw [Nat.pow_succ, Nat.mul_comm 2 (valL r), Nat.mul_comm (2 ^ n) 2, Nat.mul_assoc, Nat.add_assoc, Nat.add_comm (eLow a n)]
theorem cut_zero {m : List UInt64} (h : valL m = 0) : (cutF m).length = 0 := by
  rcases Nat.eq_zero_or_pos (cutF m).length with h1 | h1
  · exact h1
  · have := cut_lower m h1
    have h2 : 0 < W64 ^ ((cutF m).length - 1) := Nat.pow_pos (by decide)
    omega
theorem cut_pos {m : List UInt64} (h : 0 < valL m) : (cutF m).length ≠ 0 := fun h1 => by
  have := cut_upper m
  rw [h1, Nat.pow_zero] at this
  omega
theorem restF_val {a m : List UInt64} (h : 0 < valL m) : Normal (restF a m).1 ∧ valL (restF a m).1 = valL a % valL m ∧ (restF a m).2 = 0 := by
  have h0 : (((cutF m).length : Int) == 0) = false := by
    have := cut_pos h
    simp only [beq_eq_false_iff_ne, ne_eq]
    omega
  have hz : valL ([] : List UInt64) = 0 := rfl
  have hi : RI (cutF m) [] := ⟨rfl, by rw [valL_cut, hz]; exact h⟩
  obtain ⟨h1, h2⟩ := restAt_spec (a := a) (n := 64 * a.length) hi
  unfold restF
  rw [h0]
  refine ⟨cutF_idem _, ?_, rfl⟩
  show valL (cutF _) = _
  rw [valL_cut, h2, valL_cut, hz, Nat.zero_mul, Nat.zero_add, eLow_valL]

/-! the walk -/

theorem okW {xs : List UInt64} (h : xs.length < 1125899906842624) : 0 + xs.length ≤ xs.length ∧ xs.length < 1125899906842624 ∧ True ∧ True := ⟨by omega, h, trivial, trivial⟩
abbrev little (xs : List UInt64) : Prop := xs.length < 16777216
abbrev aLm : Arg (List UInt64) := aL.such little
abbrev iLm : Inp (List UInt64) := iL.such little
abbrev RestOk (a m : List UInt64) : Type := { q : Nat × List UInt64 // q.1 ≤ 64 * a.length ∧ RI m q.2 ∧ restAt a m q.1 q.2 = restAt a m (64 * a.length) [] }

theorem rest_ok : CallOk Try.prog 58 (K2 aL aLm rLI restF) :=
  G2 (E := restE cutF sumF bitF cmpR rlessF) Try.func58 (c := codeOf Try.f58) (by kernel_rfl) (bodied Try.func58 (by kernel_rfl) (by kernel_rfl)) iL iLm oLI restF fun a m0 ha hm => by
    have ha : a.length < 1125899906842624 := ha
    have hm : m0.length < 16777216 := hm.2
    have hE := restE_ok
    refine DoesL.seg hE 100 6 _ _ _ _ _ (rest_start cutF sumF bitF cmpR rlessF a m0) ?_
    simp only [whole]
    refine ⟨⟨okW (by omega), by show m0.length < _; omega⟩, fun _ => ⟨vcLen _, fun _ => ⟨fun h => ?_, fun h => ⟨vcLen a, fun _ => ?_⟩⟩⟩⟩
    · exact ⟨.t, by unfold restF; rw [h], trivial⟩
    have hml : (cutF m0).length < 16777216 := Nat.lt_of_le_of_lt (cutF_len m0) hm
    have hpos : 0 < valL (cutF m0) := by
      rcases Nat.eq_zero_or_pos (valL m0) with h1 | h1
      · rw [cut_zero h1] at h
        cases h
      · rw [valL_cut]; exact h1
    have hres : restF a m0 = (cutF (restAt a (cutF m0) (64 * a.length) []), 0) := by unfold restF; rw [h]
    rw [hres]
    generalize cutF m0 = m at *
    have hw : IntKind.i64.wrap (IntKind.i64.wrap (64 * (a.length : Int)) - 1) = ((64 * a.length : Nat) : Int) - 1 := by rw [IntWalk.i64_in (64 * (a.length : Int)) (by omega), IntWalk.i64_in _ (by omega)]; omega
    rw [hw]
    refine (?_ : DoesL _ _ (restSt a m [] (((64 * a.length : Nat) : Int) - 1)) _)
    refine DoesL.blockLoop (B := restB) (rest := restC.drop 7) (id := 0) (by kernel_rfl) (fun q : RestOk a m => restSt a m q.1.2 ((q.1.1 : Int) - 1)) (fun q => q.1.1) ⟨(64 * a.length, []), Nat.le_refl _, ⟨rfl, hpos⟩, rfl⟩ fun q => ?_
    obtain ⟨⟨n, r⟩, h0, h1, h2⟩ := q
    simp only [] at h0 h1 h2
    show Does _ _ (restSt a m r ((n : Int) - 1)) _
    have hrl : r.length ≤ m.length := normal_len h1.1 (Nat.lt_trans h1.2 (valL_lt m))
    refine Does.roundP hE 100 _ (rest_round cutF sumF bitF cmpR rlessF a m r ((n : Int) - 1)) ?_
    have e1 : UInt64.ofNat 1 = (1 : UInt64) := rfl
    simp only [whole, e1]
    refine ⟨fun h => ?_, fun h => ?_⟩
    · simp only [ge_iff_le, decide_eq_true_eq] at h
      obtain ⟨k, rfl⟩ : ∃ k : Nat, n = k + 1 := ⟨n - 1, by omega⟩
      have hk : ((k + 1 : Nat) : Int) - 1 = (k : Int) := by omega
      rw [hk, wrap_pred k (by omega), Int.toNat_natCast]
      have hb : (bitF a k == 1) = bitAt a k := by
        unfold bitF
        cases bitAt a k <;> rfl
      rw [hb]
      have hs1 := sum_len r r
      have hs2 := sum_len (sumF r r) [1]
      have hs3 : ([1] : List UInt64).length = 1 := rfl
      rw [hs3] at hs2
      have hspec := (restStep_spec h1 (bitAt a k)).1
      have hnext : restAt a m k (restStep m (bitAt a k) r) = restAt a m (64 * a.length) [] := h2
      have T : ∀ {l : List UInt64}, l.length < 4294967296 → (0 + l.length ≤ l.length ∧ l.length < 1125899906842624 ∧ True ∧ True) ∧ tiny l := fun h => ⟨okW (by omega), h⟩
      have S : ∀ {l : List UInt64}, l.length < 4294967296 → (0 + l.length ≤ l.length ∧ l.length < 1125899906842624 ∧ True ∧ True) ∧ short l := fun h => ⟨okW (by omega), by show _ < 1099511627776; omega⟩
      refine ⟨⟨T (by omega), T (by omega)⟩, fun _ => ⟨⟨okW ha, by omega, by omega⟩, fun _ => ⟨fun hb1 => ⟨⟨T (by omega), by show 1 < 4294967296; omega⟩, fun _ => ⟨⟨S (l := sumF (sumF r r) [1]) (by omega), S (by omega)⟩, fun _ => ⟨fun hc => ⟨⟨T (l := sumF (sumF r r) [1]) (by omega), T (by omega)⟩, fun _ => ?_⟩, fun hc => ?_⟩⟩⟩, fun hb1 => ⟨⟨S (by omega), S (by omega)⟩, fun _ => ⟨fun hc => ⟨⟨T (by omega), T (by omega)⟩, fun _ => ?_⟩, fun hc => ?_⟩⟩⟩⟩⟩
      all_goals
        rw [hb1] at hspec hnext
        unfold restStep at hspec hnext
        simp only [] at hspec hnext
        first | rw [downF_yes hc] at hspec hnext | rw [downF_no hc] at hspec hnext
        refine ⟨⟨(k, _), ?_, hspec, hnext⟩, ?_, ?_⟩
        · show k ≤ 64 * a.length; omega
        · show k < k + 1; omega
        · kernel_rfl
    · simp only [ge_iff_le, decide_eq_false_iff_not] at h
      obtain rfl : n = 0 := by omega
      refine ⟨rfl, DoesL.ends hE 100 (rest_end cutF sumF bitF cmpR rlessF a m r _) ?_⟩
      simp only [whole]
      refine ⟨⟨okW (by omega), by show r.length < _; omega⟩, fun _ => reads_p ?_ (Nat.le_refl _)⟩
      rw [List.take_length]
      exact congrArg (fun z => (cutF z, (0 : Int))) h2

end Go.Proofs.Ytfkmooldindfjaa
