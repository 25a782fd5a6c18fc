/- Parts Fk, Fl, Fm, Fn, Fo, joined. -/
import Derived.Test.YtchlamfdofpolaaFA
import Derived.Test.YtchlamfdofpolaaED
import Derived.IntWalk
/- The document's functions on numbers of limbs, part a: limbs, bits, noughts on top, comparisons. -/
set_option linter.unusedSimpArgs false
set_option linter.unusedVariables false
namespace Go.Proofs.Ytchlamfdofpolaa
open Go.RowKit

abbrev rL : Res (List UInt64) := resSl eU64 22
abbrev oL : Out (List UInt64) := outSl eU64 22

/-- Lists that are not too long. -/
abbrev short (xs : List UInt64) : Prop := xs.length < 1099511627776
abbrev aLc : Arg (List UInt64) := aL.such short
abbrev iLc : Inp (List UInt64) := iL.such short

/-- Lists that are much shorter still. -/
abbrev tiny (xs : List UInt64) : Prop := xs.length < 4294967296
abbrev aLt : Arg (List UInt64) := aL.such tiny
abbrev iLt : Inp (List UInt64) := iL.such tiny

theorem u64_len (xs : List UInt64) : (List.map EK.u64.cell xs).length = xs.length := List.length_map ..

/-! limb -/
theorem limb_run (xs : List UInt64) (i : Nat) : endT (En []) oU 100 Try.f143 (flat (codeOf Try.f143)) (startSt Try.f143 [iL.av 0 xs, inpNat.av 1 i] [inHE eU64 xs]) =
  (.vc (0 + xs.length * 1 ≤ (List.map EK.u64.cell xs).length ∧ 0 < 1)
    (.br (decide ((↑i : Int) < (↑xs.length : Int)))
      (.vc ((0 ≤ (↑i : Int) ∧ (↑i : Int) < (↑xs.length : Int)) ∧ 0 + xs.length * 1 ≤ (List.map EK.u64.cell xs).length ∧ 0 < 1)
        (.vc (0 + (↑i : Int).toNat * 1 < xs.length)
          (.leaf (some ((xs.getD (0 + (↑i : Int).toNat * 1) 0, .t))))))
      (.leaf (some ((UInt64.ofNat 0, .t)))))) := by kernel_rfl

theorem limb_ok : CallOk Try.prog 143 (K2 aL argNat kU64.rs.res atF) :=
  G2 (E := En []) Try.func143 (c := codeOf Try.f143) (by kernel_rfl) (bodied Try.func143 (by kernel_rfl) (by kernel_rfl)) iL inpNat oU atF fun xs i _ _ => by
    refine DoesL.ends (En_ok .nil) 100 (limb_run xs i) ⟨⟨by rw [u64_len]; omega, by decide⟩, fun _ => ⟨fun h => ?_, fun h => ?_⟩⟩
    · simp only [decide_eq_true_eq] at h
      refine ⟨⟨⟨by omega, h⟩, by rw [u64_len]; omega, by decide⟩, fun _ => ⟨by omega, fun _ => ⟨.t, ?_, trivial⟩⟩⟩
      simp [atF]
    · simp only [decide_eq_false_iff_not] at h
      refine ⟨.t, ?_, trivial⟩
      have : xs.length ≤ i := by omega
      simp [atF, List.getElem?_eq_none this]

/-! bit -/
theorem bit_run (xs : List UInt64) (i : Nat) : endT (En []) oU 100 Try.f142 (flat (codeOf Try.f142)) (startSt Try.f142 [iL.av 0 xs, inpNat.av 1 i] [inHE eU64 xs]) =
  (.vc (0 + xs.length * 1 ≤ (List.map EK.u64.cell xs).length ∧ 0 < 1)
    (.br (decide (IntKind.i64.wrap ((↑i : Int).tdiv 64) ≥ (↑xs.length : Int)))
      (.leaf (some ((UInt64.ofNat 0, .t))))
      (.vc ((0 ≤ IntKind.i64.wrap ((↑i : Int).tdiv 64) ∧ IntKind.i64.wrap ((↑i : Int).tdiv 64) < (↑xs.length : Int)) ∧ 0 + xs.length * 1 ≤ (List.map EK.u64.cell xs).length ∧ 0 < 1)
        (.vc (0 + (IntKind.i64.wrap ((↑i : Int).tdiv 64)).toNat * 1 < xs.length)
          (.vc (0 ≤ (↑i : Int).tmod 64)
            (.leaf (some ((shrU (xs.getD (0 + (IntKind.i64.wrap ((↑i : Int).tdiv 64)).toNat * 1) 0) ((↑i : Int).tmod 64) &&& UInt64.ofNat 1, .t))))))))) := by kernel_rfl

theorem bitAt_shr (xs : List UInt64) (i : Nat) : shrU (xs.getD (i / 64) 0) ((i % 64 : Nat) : Int) &&& 1 = b2u (bitAt xs i) := by
  have h := shr_bit (xs.getD (i / 64) 0) (i % 64) (by omega)
  unfold bitAt
  rw [← h]
  have h2 : ∀ y : UInt64, y &&& 1 = b2u (y &&& 1 == 1) := fun y => by
    have : (y &&& 1).toNat = y.toNat % 2 := by rw [UInt64.toNat_and]; exact Nat.and_one_is_mod _
    have h3 : (y &&& 1) = 0 ∨ (y &&& 1) = 1 := by
      rcases Nat.mod_two_eq_zero_or_one y.toNat with h | h
      · exact .inl (UInt64.toNat.inj (by rw [this, h]; rfl))
      · exact .inr (UInt64.toNat.inj (by rw [this, h]; rfl))
    rcases h3 with h | h <;> rw [h] <;> rfl
  exact h2 _

theorem natdiv_Z (i : Nat) (h : i < 9223372036854775808) : IntKind.i64.wrap (((i : Nat) : Int).tdiv 64) = ((i / 64 : Nat) : Int) := by
  rw [show ((i : Int)).tdiv 64 = ((i / 64 : Nat) : Int) by rw [Int.tdiv_eq_ediv_of_nonneg (by omega)]; omega, IntWalk.i64_in _ (by omega)]
theorem natmod_Z (i : Nat) : ((i : Nat) : Int).tmod 64 = ((i % 64 : Nat) : Int) := by rw [Int.tmod_eq_emod_of_nonneg (by omega)]; omega

/-- A number that is not below 0, and fits. -/
def argIdx : Arg Nat where
  rd := fun _ v => match v with
    | .one (.c (.lit .i64 n)) => match decide (0 ≤ n) && decide (n < 9223372036854775808) with
      | true => some (n.toNat, .t, [])
      | false => none
    | .one (.c (.int .i64 n)) => some (n.toNat, .p (0 ≤ n ∧ n < 9223372036854775808), [])
    | _ => none
  is := fun _ v x => v = .int .i64 (x : Int) ∧ x < 9223372036854775808
  ok := fun {w0 β h w v x p rs} e hp _ _ => by
    split at e
    · split at e
      · rename_i hd
        cases e
        simp only [Bool.and_eq_true, decide_eq_true_eq] at hd
        refine ⟨?_, by omega⟩
        simp only [gv, g1, gc]
        congr 1
        omega
      · cases e
    · cases e
      have hp : (0 : Int) ≤ _ ∧ _ < (9223372036854775808 : Int) := hp
      refine ⟨?_, by omega⟩
      simp only [gv, g1, gc]
      congr 1
      omega
    · cases e
  near := fun e _ => e

def inpIdx : Inp Nat where
  arg := argIdx
  av := fun _ x => .one (.c (.int .i64 (x : Int)))
  hes := fun _ => []
  fact := fun x => x < 9223372036854775808
  known := fun h => h.2
  intro := fun {w0 β heap w v x} hr _ hv => ⟨β, by rw [List.append_nil]; exact hr, hv.1.symm, okc_none rfl, fun _ _ => rfl⟩

def bitF (xs : List UInt64) (i : Nat) : UInt64 := b2u (bitAt xs i)

theorem bit_ok : CallOk Try.prog 142 (K2 aL argIdx kU64.rs.res bitF) :=
  G2 (E := En []) Try.func142 (c := codeOf Try.f142) (by kernel_rfl) (bodied Try.func142 (by kernel_rfl) (by kernel_rfl)) iL inpIdx oU bitF fun xs i _ hi => by
    have hi : i < 9223372036854775808 := hi
    refine DoesL.ends (En_ok .nil) 100 (bit_run xs i) ⟨⟨by rw [u64_len]; omega, by decide⟩, fun _ => ⟨fun h => ?_, fun h => ?_⟩⟩
    · simp only [decide_eq_true_eq] at h
      rw [natdiv_Z i hi] at h
      refine ⟨.t, ?_, trivial⟩
      have : xs.length ≤ i / 64 := by omega
      simp [bitF, bitAt, List.getD_eq_getElem?_getD, List.getElem?_eq_none this]
      rfl
    · simp only [decide_eq_false_iff_not] at h
      rw [natdiv_Z i hi] at h ⊢
      refine ⟨⟨⟨by omega, by omega⟩, by rw [u64_len]; omega, by decide⟩, fun _ => ⟨by omega, fun _ => ⟨by rw [natmod_Z]; omega, fun _ => ⟨.t, ?_, trivial⟩⟩⟩⟩
      rw [natmod_Z]
      have := bitAt_shr xs i
      simp only [Nat.zero_add, Nat.mul_one, Int.toNat_natCast]
      exact congrArg (fun z => some (z, Pr.t)) this.symm ▸ rfl

end Go.Proofs.Ytchlamfdofpolaa

/- The document's functions on numbers of limbs, part b: noughts on top, comparisons. -/
set_option linter.unusedSimpArgs false
set_option linter.unusedVariables false
namespace Go.Proofs.Ytchlamfdofpolaa
open Go.RowKit

/-! Cut -/
noncomputable abbrev cutC : List Code := flat (codeOf Try.f144)
def cutSt (xs : List UInt64) (z : Int) : St := mkSt 23 [(0, inV 0 xs), (3, vI z)] [inHE eU64 xs]

theorem cut_start (xs : List UInt64) : stageG (En []) 100 (cutC.take 2) (startSt Try.f144 [iL.av 0 xs] [inHE eU64 xs]) [0, 3] [0] [(0, .as), (3, .int)] [] [] =
  (.vc (0 + xs.length * 1 ≤ (List.map EK.u64.cell xs).length ∧ 0 < 1)
    (.leaf (mkSt 23 [(0, .one (.c (.slc 0 0 (xs.length) 1 (.of 0) false))), (3, .one (.c (.int .i64 ((↑xs.length : Int)))))] [.live ⟨false, 0, 1, (.elts .u64 (xs : List UInt64)), false⟩]))) := by kernel_rfl
theorem cut_round (xs : List UInt64) (z : Int) : roundT (En []) 100 (loopAt Try.f144 0) (cutSt xs z) (same [0, 3] [0]) =
  (.br (decide (z > 0))
    (.vc ((0 ≤ IntKind.i64.wrap (z - 1) ∧ IntKind.i64.wrap (z - 1) < (↑xs.length : Int)) ∧ 0 + xs.length * 1 ≤ (List.map EK.u64.cell xs).length ∧ 0 < 1)
      (.vc (0 + (IntKind.i64.wrap (z - 1)).toNat * 1 < xs.length)
        (.br (xs.getD (0 + (IntKind.i64.wrap (z - 1)).toNat * 1) 0 == UInt64.ofNat 0)
          (.leaf ((.normal, mkSt 23 [(0, .one (.c (.slc 0 0 (xs.length) 1 (.of 0) false))), (3, .one (.c (.int .i64 (IntKind.i64.wrap (z - 1)))))] [.live ⟨false, 0, 1, (.elts .u64 (xs : List UInt64)), false⟩])))
          (.leaf ((.exit 0, mkSt 23 [(0, .one (.c (.slc 0 0 (xs.length) 1 (.of 0) false))), (3, .one (.c (.int .i64 (z))))] [.live ⟨false, 0, 1, (.elts .u64 (xs : List UInt64)), false⟩]))))))
    (.leaf ((.exit 0, mkSt 23 [(0, .one (.c (.slc 0 0 (xs.length) 1 (.of 0) false))), (3, .one (.c (.int .i64 (z))))] [.live ⟨false, 0, 1, (.elts .u64 (xs : List UInt64)), false⟩])))) := by kernel_rfl
theorem cut_end (xs : List UInt64) (z : Int) : endT (En []) oL 100 Try.f144 (cutC.drop 3) (cutSt xs z) =
  (.vc (0 ≤ z ∧ 0 ≤ z.toNat ∧ z.toNat ≤ xs.length ∧ 0 + xs.length * 1 ≤ (List.map EK.u64.cell xs).length ∧ 0 < 1 ∧ (0 = 0 ∨ 0 < z.toNat) ∧ 0 = 0 ∧ 1 = 1)
    (.vc (0 + (z.toNat - 0) ≤ xs.length ∧ 0 + (z.toNat - 0) ≤ 9223372036854775807 ∧ (0 + (z.toNat - 0)) * 8 ≤ 140737488355328)
      (.leaf (some ((List.take (0 + (z.toNat - 0)) ([] ++ List.take (z.toNat - 0) (List.drop 0 xs)), (.p (0 + (z.toNat - 0) ≤ ([] ++ List.take (z.toNat - 0) (List.drop 0 xs)).length)))))))) := by kernel_rfl
theorem cut_split : cutC.drop 2 = .block 0 (.loop (loopAt Try.f144 0)) :: cutC.drop 3 := by kernel_rfl

/-- How many limbs there are of the first n, without noughts on top. -/
def cutN (xs : List UInt64) : Nat → Nat
  | 0 => 0
  | n + 1 => if atF xs n = 0 then cutN xs n else n + 1
def cutF (xs : List UInt64) : List UInt64 := xs.take (cutN xs xs.length)

theorem cutN_le (xs : List UInt64) : ∀ n, cutN xs n ≤ n
  | 0 => Nat.le_refl _
  | n + 1 => by
    unfold cutN
    split
    · exact Nat.le_succ_of_le (cutN_le xs n)
    · exact Nat.le_refl _

abbrev CutOk (xs : List UInt64) : Type := { n : Nat // n ≤ xs.length ∧ cutN xs n = cutN xs xs.length }

theorem topLen_eq : topLen = 1125899906842624 := rfl

theorem cut_ok : CallOk Try.prog 144 (K1 aLc rL cutF) :=
  G1 (E := En []) Try.func144 (c := codeOf Try.f144) (by kernel_rfl) (bodied Try.func144 (by kernel_rfl) (by kernel_rfl)) iLc oL cutF fun xs hx => by
    have hx : xs.length < 1099511627776 := hx.2
    refine DoesL.stageG (En_ok .nil) 100 2 [0, 3] [0] [(0, .as), (3, .int)] [] [] (cut_start xs) ⟨⟨by rw [u64_len]; omega, by decide⟩, fun _ => ?_⟩
    refine DoesL.blockLoop cut_split (fun n : CutOk xs => cutSt xs (n.1 : Int)) (fun n => n.1) ⟨xs.length, Nat.le_refl _, rfl⟩ fun n => ?_
    obtain ⟨n, h1, h2⟩ := n
    refine Does.round (En_ok .nil) 100 _ (cut_round xs n) ⟨fun h => ?_, fun h => ?_⟩
    · simp only [decide_eq_true_eq] at h
      obtain ⟨m, rfl⟩ : ∃ m, n = m + 1 := ⟨n - 1, by omega⟩
      have hw : IntKind.i64.wrap (((m + 1 : Nat) : Int) - 1) = (m : Int) := by rw [IntWalk.i64_in _ (by omega)]; omega
      rw [hw]
      refine ⟨⟨⟨by omega, by omega⟩, by rw [u64_len]; omega, by decide⟩, fun _ => ⟨by omega, fun _ => ⟨fun h3 => ?_, fun h3 => ?_⟩⟩⟩
      · refine ⟨⟨m, by omega, ?_⟩, by show m < m + 1; omega, rfl⟩
        rw [← h2]
        have : atF xs m = 0 := by
          simp only [beq_iff_eq, Nat.zero_add, Nat.mul_one, Int.toNat_natCast] at h3
          exact h3
        simp only [cutN, if_pos this]
      · refine ⟨rfl, DoesL.ends (En_ok .nil) 100 (cut_end xs ((m + 1 : Nat) : Int)) ⟨?_, fun _ => ⟨?_, fun _ => reads_p ?_ ?_⟩⟩⟩
        · rw [u64_len, Int.toNat_natCast]; exact ⟨by omega, by omega, by omega, by omega, by decide, .inl rfl, rfl, rfl⟩
        · rw [Int.toNat_natCast]; omega
        · simp only [Int.toNat_natCast, Nat.zero_add, Nat.sub_zero, List.drop_zero, List.nil_append, List.take_take, Nat.min_self]
          unfold cutF
          rw [← h2]
          have : atF xs m ≠ 0 := by
            simp only [beq_eq_false_iff_ne, Nat.zero_add, Nat.mul_one, Int.toNat_natCast] at h3
            exact h3
          simp only [cutN, if_neg this]
        · simp only [Int.toNat_natCast, Nat.zero_add, Nat.sub_zero, List.drop_zero, List.nil_append, List.length_take]
          omega
    · simp only [decide_eq_false_iff_not] at h
      obtain rfl : n = 0 := by omega
      refine ⟨rfl, DoesL.ends (En_ok .nil) 100 (cut_end xs 0) ⟨?_, fun _ => ⟨?_, fun _ => reads_p ?_ ?_⟩⟩⟩
      · rw [u64_len]; exact ⟨by omega, by omega, by simp, by omega, by decide, .inl rfl, rfl, rfl⟩
      · simp
      · unfold cutF
        rw [← h2]
        simp [cutN]
      · simp

end Go.Proofs.Ytchlamfdofpolaa

/- The document's functions on numbers of limbs, part c: comparisons. -/
set_option linter.unusedSimpArgs false
set_option linter.unusedVariables false
namespace Go.Proofs.Ytchlamfdofpolaa
open Go.RowKit

/-! Compare -/
noncomputable abbrev rcmpC : List Code := flat (codeOf Try.f145)
noncomputable abbrev rcmpB : Code := loopAt Try.f145 0
def ownL (xs : List UInt64) : HE := .live ⟨true, 22, 1, .elts .u64 xs, false⟩
def slV (i : Nat) (xs : List UInt64) : AV := .one (.c (.slc i 0 xs.length 1 (.of 0) false))
def rcmpS0 (a b : List UInt64) : St := mkSt 45 [(0, slV 0 a), (1, slV 1 b)] [ownL a, ownL b]
def rcmpSt (a b : List UInt64) (z : Int) : St := mkSt 45 [(0, slV 0 a), (1, slV 1 b), (5, vI z)] [ownL a, ownL b]
noncomputable abbrev rcmpE (cF : List UInt64 → List UInt64) : Env := Ens [(144, K1 aLc rL cF)] [144]
theorem rcmpE_ok : EnvOk (rcmpE cutF) := Ens_ok (.cons cut_ok .nil)

theorem rcmp_start (cF : List UInt64 → List UInt64) (xs ys : List UInt64) : stageT (rcmpE cF) 100 (rcmpC.take 2) (startSt Try.f145 [iL.av 0 xs, iL.av 1 ys] [inHE eU64 xs, inHE eU64 ys]) [0, 1] [2, 3] =
  (.vc ((0 + xs.length ≤ xs.length ∧ xs.length < 1125899906842624 ∧ 0 = 0 ∧ 1 = 1) ∧ short (List.take xs.length (List.drop 0 xs)))
    (.vc ((0 + ys.length ≤ ys.length ∧ ys.length < 1125899906842624 ∧ 0 = 0 ∧ 1 = 1) ∧ short (List.take ys.length (List.drop 0 ys)))
      (.leaf (mkSt 45 [(0, .one (.c (.slc 0 0 ((cF (List.take xs.length (List.drop 0 xs))).length) 1 (.of 0) false))), (1, .one (.c (.slc 1 0 ((cF (List.take ys.length (List.drop 0 ys))).length) 1 (.of 0) false)))] [.live ⟨true, 22, 1, (.elts .u64 (cF (List.take xs.length (List.drop 0 xs)) : List UInt64)), false⟩, .live ⟨true, 22, 1, (.elts .u64 (cF (List.take ys.length (List.drop 0 ys)) : List UInt64)), false⟩])))) := by kernel_rfl
theorem rcmp_len (cF : List UInt64 → List UInt64) (a b : List UInt64) : segT (rcmpE cF) oI 100 Try.f145 ((rcmpC.drop 2).take 3) (rcmpS0 a b) [0, 1, 5] [0, 1] [(0, .as), (1, .as), (5, .int)] [] [] =
  (.vc (0 + a.length * 1 ≤ (List.map EK.u64.cell a).length ∧ 0 < 1)
    (.vc (0 + b.length * 1 ≤ (List.map EK.u64.cell b).length ∧ 0 < 1)
      (.br ((↑a.length : Int) != (↑b.length : Int))
        (.vc (0 + a.length * 1 ≤ (List.map EK.u64.cell a).length ∧ 0 < 1)
          (.vc (0 + b.length * 1 ≤ (List.map EK.u64.cell b).length ∧ 0 < 1)
            (.br (decide ((↑a.length : Int) < (↑b.length : Int)))
              (.leaf (.inr (some ((-1, .t)))))
              (.leaf (.inr (some ((1, .t))))))))
        (.vc (0 + a.length * 1 ≤ (List.map EK.u64.cell a).length ∧ 0 < 1)
          (.leaf (.inl (mkSt 45 [(0, .one (.c (.slc 0 0 (a.length) 1 (.of 0) false))), (1, .one (.c (.slc 1 0 (b.length) 1 (.of 0) false))), (5, .one (.c (.int .i64 (IntKind.i64.wrap ((↑a.length : Int) - 1)))))] [.live ⟨true, 22, 1, (.elts .u64 (a : List UInt64)), false⟩, .live ⟨true, 22, 1, (.elts .u64 (b : List UInt64)), false⟩]))))))) := by kernel_rfl
theorem rcmp_round (cF : List UInt64 → List UInt64) (a b : List UInt64) (z : Int) : iterT (rcmpE cF) oI 100 Try.f145 [rcmpB] (rcmpSt a b z) [0, 1, 5] [0, 1] =
  (.br (decide (z ≥ 0))
    (.vc ((0 ≤ z ∧ z < (↑a.length : Int)) ∧ 0 + a.length * 1 ≤ (List.map EK.u64.cell a).length ∧ 0 < 1)
      (.vc (0 + z.toNat * 1 < a.length)
        (.vc ((0 ≤ z ∧ z < (↑b.length : Int)) ∧ 0 + b.length * 1 ≤ (List.map EK.u64.cell b).length ∧ 0 < 1)
          (.vc (0 + z.toNat * 1 < b.length)
            (.br (decide (a.getD (0 + z.toNat * 1) 0 < b.getD (0 + z.toNat * 1) 0))
              (.leaf (.inr (some ((-1, .t)))))
              (.vc ((0 ≤ z ∧ z < (↑a.length : Int)) ∧ 0 + a.length * 1 ≤ (List.map EK.u64.cell a).length ∧ 0 < 1)
                (.vc (0 + z.toNat * 1 < a.length)
                  (.vc ((0 ≤ z ∧ z < (↑b.length : Int)) ∧ 0 + b.length * 1 ≤ (List.map EK.u64.cell b).length ∧ 0 < 1)
                    (.vc (0 + z.toNat * 1 < b.length)
                      (.br (decide (b.getD (0 + z.toNat * 1) 0 < a.getD (0 + z.toNat * 1) 0))
                        (.leaf (.inr (some ((1, .t)))))
                        (.leaf (.inl ((.normal, mkSt 45 [(0, .one (.c (.slc 0 0 (a.length) 1 (.of 0) false))), (1, .one (.c (.slc 1 0 (b.length) 1 (.of 0) false))), (5, .one (.c (.int .i64 (IntKind.i64.wrap (z - 1)))))] [.live ⟨true, 22, 1, (.elts .u64 (a : List UInt64)), false⟩, .live ⟨true, 22, 1, (.elts .u64 (b : List UInt64)), false⟩]))))))))))))))
    (.leaf (.inl ((.exit 0, mkSt 45 [(0, .one (.c (.slc 0 0 (a.length) 1 (.of 0) false))), (1, .one (.c (.slc 1 0 (b.length) 1 (.of 0) false))), (5, .one (.c (.int .i64 (z))))] [.live ⟨true, 22, 1, (.elts .u64 (a : List UInt64)), false⟩, .live ⟨true, 22, 1, (.elts .u64 (b : List UInt64)), false⟩]))))) := by kernel_rfl
theorem rcmp_end (cF : List UInt64 → List UInt64) (a b : List UInt64) (z : Int) : endT (rcmpE cF) oI 100 Try.f145 (rcmpC.drop 6) (rcmpSt a b z) =
  (.leaf (some ((0, .t)))) := by kernel_rfl

theorem vcLen (xs : List UInt64) : 0 + xs.length * 1 ≤ (List.map EK.u64.cell xs).length ∧ 0 < 1 := ⟨by rw [u64_len]; omega, by decide⟩
theorem vcIdx {xs : List UInt64} {n : Nat} (h : n < xs.length) : ((0 : Int) ≤ (n : Int) ∧ (n : Int) < (xs.length : Int)) ∧ 0 + xs.length * 1 ≤ (List.map EK.u64.cell xs).length ∧ 0 < 1 := ⟨⟨by omega, by omega⟩, vcLen xs⟩
theorem vcGet {xs : List UInt64} {n : Nat} (h : n < xs.length) : 0 + ((n : Int)).toNat * 1 < xs.length := by rw [Int.toNat_natCast]; omega
theorem getZ (xs : List UInt64) (n : Nat) : xs.getD (0 + ((n : Int)).toNat * 1) 0 = atF xs n := by rw [Int.toNat_natCast, Nat.zero_add, Nat.mul_one]; rfl
theorem wrap_pred (n : Nat) (h : n < 9223372036854775807) : IntKind.i64.wrap ((n : Int) - 1) = (n : Int) - 1 := IntWalk.i64_in _ (by omega)
theorem wrap_succ (n : Nat) (h : n < 9223372036854775807) : IntKind.i64.wrap ((n : Int) + 1) = ((n + 1 : Nat) : Int) := by rw [IntWalk.i64_in _ (by omega)]; omega

theorem whole (xs : List UInt64) : List.take xs.length (List.drop 0 xs) = xs := by rw [List.drop_zero, List.take_length]
theorem okL' {xs : List UInt64} (h : xs.length < 1125899906842624) : 0 + xs.length ≤ xs.length ∧ xs.length < 1125899906842624 ∧ 0 = 0 ∧ 1 = 1 := ⟨by omega, h, rfl, rfl⟩
theorem okC {xs : List UInt64} (h : xs.length < 1099511627776) : (0 + xs.length ≤ xs.length ∧ xs.length < 1125899906842624 ∧ 0 = 0 ∧ 1 = 1) ∧ short (List.take xs.length (List.drop 0 xs)) := ⟨okL' (by omega), by rw [whole]; exact h⟩
theorem okT {xs : List UInt64} (h : xs.length < 4294967296) : (0 + xs.length ≤ xs.length ∧ xs.length < 1125899906842624 ∧ 0 = 0 ∧ 1 = 1) ∧ tiny (List.take xs.length (List.drop 0 xs)) := ⟨okL' (by omega), by rw [whole]; exact h⟩

def cmpR (xs ys : List UInt64) : Int :=
  if (cutF xs).length ≠ (cutF ys).length then (if (cutF xs).length < (cutF ys).length then -1 else 1) else cmpAt (cutF xs) (cutF ys) (cutF xs).length

abbrev RcOk (a b : List UInt64) : Type := { z : Int // -1 ≤ z ∧ z < a.length ∧ cmpAt a b (z + 1).toNat = cmpAt a b a.length }

theorem rcmp_ok : CallOk Try.prog 145 (K2 aLc aLc kInt.rs.res cmpR) :=
  G2 (E := rcmpE cutF) Try.func145 (c := codeOf Try.f145) (by kernel_rfl) (bodied Try.func145 (by kernel_rfl) (by kernel_rfl)) iLc iLc oI cmpR fun xs ys hx hy => by
    have hx : xs.length < 1099511627776 := hx.2
    have hy : ys.length < 1099511627776 := hy.2
    have hE := rcmpE_ok
    have hcl : ∀ zs : List UInt64, (cutF zs).length ≤ zs.length := fun zs => by unfold cutF; rw [List.length_take]; omega
    have cx := hcl xs
    have cy := hcl ys
    refine DoesL.stageE hE 100 2 [0, 1] [2, 3] (rcmp_start cutF xs ys) ?_
    simp only [List.drop_zero, List.take_length]
    refine ⟨⟨⟨by omega, by omega, trivial, trivial⟩, hx⟩, fun _ => ⟨⟨⟨by omega, by omega, trivial, trivial⟩, hy⟩, fun _ => ?_⟩⟩
    have ex : cmpR xs ys = if (cutF xs).length ≠ (cutF ys).length then (if (cutF xs).length < (cutF ys).length then -1 else 1) else cmpAt (cutF xs) (cutF ys) (cutF xs).length := rfl
    generalize cutF xs = a at *
    generalize cutF ys = b at *
    refine DoesL.seg hE 100 3 [0, 1, 5] [0, 1] [(0, .as), (1, .as), (5, .int)] [] [] (rcmp_len cutF a b) ⟨vcLen a, fun _ => ⟨vcLen b, fun _ => ⟨fun h => ⟨vcLen a, fun _ => ⟨vcLen b, fun _ => ⟨fun h2 => ?_, fun h2 => ?_⟩⟩⟩, fun h => ⟨vcLen a, fun _ => ?_⟩⟩⟩⟩
    · simp only [bne_iff_ne, ne_eq, decide_eq_true_eq] at h h2
      exact reads_t (by rw [ex, if_pos (by omega), if_pos (by omega)])
    · simp only [bne_iff_ne, ne_eq, decide_eq_false_iff_not] at h h2
      exact reads_t (by rw [ex, if_pos (by omega), if_neg (by omega)])
    · simp only [bne_eq_false_iff_eq] at h
      have hl : a.length = b.length := by omega
      rw [if_neg (by omega)] at ex
      have hw : IntKind.i64.wrap ((a.length : Int) - 1) = (a.length : Int) - 1 := wrap_pred _ (by omega)
      rw [hw]
      refine DoesL.blockLoopR (B := rcmpB) (rest := rcmpC.drop 6) (id := 0) (by kernel_rfl) (fun z : RcOk a b => rcmpSt a b z.1) (fun z => (z.1 + 1).toNat) ⟨(a.length : Int) - 1, by omega, by omega, by rw [show ((a.length : Int) - 1 + 1).toNat = a.length by omega]⟩ fun z => ?_
      obtain ⟨z, z1, z2, z3⟩ := z
      refine DoesL.iter hE 100 [0, 1, 5] [0, 1] (rcmp_round cutF a b z) ⟨fun h0 => ?_, fun h0 => ?_⟩
      · simp only [ge_iff_le, decide_eq_true_eq] at h0
        obtain ⟨n, rfl⟩ : ∃ n : Nat, z = (n : Int) := ⟨z.toNat, by omega⟩
        have na : n < a.length := by omega
        have nb : n < b.length := by omega
        rw [getZ, getZ, wrap_pred _ (by omega)]
        rw [show ((n : Int) + 1).toNat = n + 1 by omega] at z3
        have st : cmpAt a b (n + 1) = if atF a n < atF b n then -1 else if atF a n > atF b n then 1 else cmpAt a b n := rfl
        refine ⟨vcIdx na, fun _ => ⟨vcGet na, fun _ => ⟨by exact vcIdx nb, fun _ => ⟨vcGet nb, fun _ => ⟨fun h1 => ?_, fun h1 => ⟨vcIdx na, fun _ => ⟨vcGet na, fun _ => ⟨vcIdx nb, fun _ => ⟨vcGet nb, fun _ => ⟨fun h2 => ?_, fun h2 => ?_⟩⟩⟩⟩⟩⟩⟩⟩⟩⟩
        · simp only [decide_eq_true_eq] at h1
          exact reads_t (by rw [ex, ← z3, st, if_pos h1])
        · simp only [decide_eq_true_eq, decide_eq_false_iff_not] at h1 h2
          exact reads_t (by rw [ex, ← z3, st, if_neg h1, if_pos h2])
        · simp only [decide_eq_false_iff_not] at h1 h2
          refine ⟨⟨(n : Int) - 1, by omega, by omega, ?_⟩, ?_, rfl⟩
          · rw [show ((n : Int) - 1 + 1).toNat = n by omega, ← z3, st, if_neg h1, if_neg h2]
          · simp only []; omega
      · simp only [ge_iff_le, decide_eq_false_iff_not] at h0
        obtain rfl : z = -1 := by omega
        refine ⟨rfl, DoesL.ends hE 100 (rcmp_end cutF a b (-1)) (reads_t ?_)⟩
        rw [ex, ← z3]
        rfl

end Go.Proofs.Ytchlamfdofpolaa

/- The document's functions on numbers of limbs, part d: sums and differences. -/
set_option linter.unusedSimpArgs false
set_option linter.unusedVariables false
namespace Go.Proofs.Ytchlamfdofpolaa
open Go.RowKit

abbrev bitV (b : Bool) : AV := .one (.c (.bit b))

/-! Sum -/
noncomputable abbrev rsumC : List Code := flat (codeOf Try.f120)
noncomputable abbrev rsumB : Code := loopAt Try.f120 0
def rsumSt (xs ys out : List UInt64) (c : Bool) (z : Int) : St := mkSt 40 [(0, inV 0 xs), (1, inV 1 ys), (5, slV 2 out), (6, bitV c), (7, vI z)] [inHE eU64 xs, inHE eU64 ys, ownL out]
noncomputable abbrev rsumE (lF : List UInt64 → Nat → UInt64) (S : UInt64 → UInt64 → Bool → UInt64) (C : UInt64 → UInt64 → Bool → Bool) (cF : List UInt64 → List UInt64) : Env :=
  Ens [(143, K2 aL argNat kU64.rs.res lF), (123, K3x S C), (144, K1 aLc rL cF)] [144]
theorem rsumE_ok : EnvOk (rsumE atF addS addC cutF) := Ens_ok (.cons limb_ok (.cons add64_ok (.cons cut_ok .nil)))

theorem rsum_start (lF : List UInt64 → Nat → UInt64) (S : UInt64 → UInt64 → Bool → UInt64) (C : UInt64 → UInt64 → Bool → Bool) (cF : List UInt64 → List UInt64) (xs ys : List UInt64) : stageG (rsumE lF S C cF) 100 (rsumC.take 4) (startSt Try.f120 [iL.av 0 xs, iL.av 1 ys] [inHE eU64 xs, inHE eU64 ys]) [0, 1, 5, 6, 7] [0, 1] [(0, .as), (1, .as), (5, .nil 2), (6, .bit), (7, .int)] [] [(22, .u64)] =
  (.leaf (mkSt 40 [(0, .one (.c (.slc 0 0 (xs.length) 1 (.of 0) false))), (1, .one (.c (.slc 1 0 (ys.length) 1 (.of 0) false))), (5, .one (.c (.slc 2 0 0 1 (.of 0) false))), (6, .one (.c (.bit (false)))), (7, .one (.c (.int .i64 0)))] [.live ⟨false, 0, 1, (.elts .u64 (xs : List UInt64)), false⟩, .live ⟨false, 0, 1, (.elts .u64 (ys : List UInt64)), false⟩, .live ⟨true, 22, 1, (.elts .u64 ([] : List UInt64)), false⟩])) := by kernel_rfl
theorem rsum_round (lF : List UInt64 → Nat → UInt64) (S : UInt64 → UInt64 → Bool → UInt64) (C : UInt64 → UInt64 → Bool → Bool) (cF : List UInt64 → List UInt64) (xs ys out : List UInt64) (c : Bool) (z : Int) : roundT (rsumE lF S C cF) 100 rsumB (rsumSt xs ys out c z) (fun x => match x with | .normal => some ([0, 1, 5, 6, 7], [0, 1, 4]) | _ => some ([0, 1, 5, 6, 7], [0, 1, 2])) =
  (.vc (0 + xs.length * 1 ≤ (List.map EK.u64.cell xs).length ∧ 0 < 1)
    (.vc (0 + ys.length * 1 ≤ (List.map EK.u64.cell ys).length ∧ 0 < 1)
      (.br (decide (z < if (↑ys.length : Int) > (↑xs.length : Int) then (↑ys.length : Int) else (↑xs.length : Int)))
        (.vc ((0 + xs.length ≤ xs.length ∧ xs.length < 1125899906842624 ∧ 0 = 0 ∧ 1 = 1) ∧ 0 ≤ z)
          (.vc ((0 + ys.length ≤ ys.length ∧ ys.length < 1125899906842624 ∧ 0 = 0 ∧ 1 = 1) ∧ 0 ≤ z)
            (.vc (0 + out.length ≤ out.length ∧ out.length + 1 ≤ 9223372036854775807 ∧ (out.length + 1) * 8 ≤ 140737488355328)
              (.leaf ((.normal, mkSt 40 [(0, .one (.c (.slc 0 0 (xs.length) 1 (.of 0) false))), (1, .one (.c (.slc 1 0 (ys.length) 1 (.of 0) false))), (5, .one (.c (.slc 2 0 (out.length + 1) 1 (.of 0) false))), (6, .one (.c (.bit (C (lF (List.take xs.length (List.drop 0 xs)) z.toNat) (lF (List.take ys.length (List.drop 0 ys)) z.toNat) c)))), (7, .one (.c (.int .i64 (IntKind.i64.wrap (z + 1)))))] [.live ⟨false, 0, 1, (.elts .u64 (xs : List UInt64)), false⟩, .live ⟨false, 0, 1, (.elts .u64 (ys : List UInt64)), false⟩, .live ⟨true, 22, 1, (.elts .u64 (List.take out.length (List.drop 0 out) ++ [S (lF (List.take xs.length (List.drop 0 xs)) z.toNat) (lF (List.take ys.length (List.drop 0 ys)) z.toNat) c] : List UInt64)), false⟩]))))))
        (.leaf ((.exit 0, mkSt 40 [(0, .one (.c (.slc 0 0 (xs.length) 1 (.of 0) false))), (1, .one (.c (.slc 1 0 (ys.length) 1 (.of 0) false))), (5, .one (.c (.slc 2 0 (out.length) 1 (.of 0) false))), (6, .one (.c (.bit (c)))), (7, .one (.c (.int .i64 (z))))] [.live ⟨false, 0, 1, (.elts .u64 (xs : List UInt64)), false⟩, .live ⟨false, 0, 1, (.elts .u64 (ys : List UInt64)), false⟩, .live ⟨true, 22, 1, (.elts .u64 (out : List UInt64)), false⟩])))))) := by kernel_rfl
theorem rsum_end (lF : List UInt64 → Nat → UInt64) (S : UInt64 → UInt64 → Bool → UInt64) (C : UInt64 → UInt64 → Bool → Bool) (cF : List UInt64 → List UInt64) (xs ys out : List UInt64) (c : Bool) (z : Int) : endT (rsumE lF S C cF) oL 100 Try.f120 (rsumC.drop 5) (rsumSt xs ys out c z) =
  (.vc (0 + out.length ≤ out.length ∧ out.length + 1 ≤ 9223372036854775807 ∧ (out.length + 1) * 8 ≤ 140737488355328)
    (.vc ((0 + (out.length + 1) ≤ (List.take out.length (List.drop 0 out) ++ [b2u c]).length ∧ out.length + 1 < 1125899906842624 ∧ 0 = 0 ∧ 1 = 1) ∧ short (List.take (out.length + 1) (List.drop 0 (List.take out.length (List.drop 0 out) ++ [b2u c]))))
      (.leaf (some ((List.take (cF (List.take (out.length + 1) (List.drop 0 (List.take out.length (List.drop 0 out) ++ [b2u c])))).length (cF (List.take (out.length + 1) (List.drop 0 (List.take out.length (List.drop 0 out) ++ [b2u c])))), (.p ((cF (List.take (out.length + 1) (List.drop 0 (List.take out.length (List.drop 0 out) ++ [b2u c])))).length ≤ (cF (List.take (out.length + 1) (List.drop 0 (List.take out.length (List.drop 0 out) ++ [b2u c])))).length)))))))) := by kernel_rfl

/-- The sum of the first limbs, and its carry. -/
def addAt (xs ys : List UInt64) : Nat → List UInt64 × Bool
  | 0 => ([], false)
  | k + 1 => ((addAt xs ys k).1 ++ [addS (atF xs k) (atF ys k) (addAt xs ys k).2], addC (atF xs k) (atF ys k) (addAt xs ys k).2)
theorem addAt_len (xs ys : List UInt64) : ∀ k, (addAt xs ys k).1.length = k
  | 0 => rfl
  | k + 1 => by simp only [addAt, List.length_append, addAt_len xs ys k, List.length_singleton]
def sumF (xs ys : List UInt64) : List UInt64 := cutF ((addAt xs ys (max xs.length ys.length)).1 ++ [b2u (addAt xs ys (max xs.length ys.length)).2])

theorem max_if (a b : Nat) : (if (b : Int) > (a : Int) then (b : Int) else (a : Int)) = ((max a b : Nat) : Int) := by split <;> omega

theorem own_eq (xs : List UInt64) (x : UInt64) : List.take xs.length (List.drop 0 xs) ++ [x] = xs ++ [x] := by rw [List.drop_zero, List.take_length]
theorem len_snoc (xs : List UInt64) (x : UInt64) : xs.length + 1 = (xs ++ [x]).length := by simp

theorem rsum_ok : CallOk Try.prog 120 (K2 aLt aLt rL sumF) :=
  G2 (E := rsumE atF addS addC cutF) Try.func120 (c := codeOf Try.f120) (by kernel_rfl) (bodied Try.func120 (by kernel_rfl) (by kernel_rfl)) iLt iLt oL sumF fun xs ys hx hy => by
    have hx : xs.length < 4294967296 := hx.2
    have hy : ys.length < 4294967296 := hy.2
    have hE := rsumE_ok
    refine DoesL.stageG hE 100 4 _ _ _ _ _ (rsum_start atF addS addC cutF xs ys) ?_
    refine DoesL.blockLoop (B := rsumB) (rest := rsumC.drop 5) (id := 0) (by kernel_rfl) (fun k : { k : Nat // k ≤ max xs.length ys.length } => rsumSt xs ys (addAt xs ys k.1).1 (addAt xs ys k.1).2 (k.1 : Int)) (fun k => max xs.length ys.length - k.1) ⟨0, by omega⟩ fun k => ?_
    obtain ⟨k, hk⟩ := k
    have hl := addAt_len xs ys k
    show Does _ _ (rsumSt xs ys (addAt xs ys k).1 (addAt xs ys k).2 (k : Int)) _
    refine Does.round hE 100 _ (rsum_round atF addS addC cutF xs ys _ _ (k : Int)) ⟨vcLen xs, fun _ => ⟨vcLen ys, fun _ => ⟨fun h => ?_, fun h => ?_⟩⟩⟩
    · rw [max_if] at h
      simp only [decide_eq_true_eq] at h
      refine ⟨⟨okL' (by omega), by omega⟩, fun _ => ⟨⟨okL' (by omega), by omega⟩, fun _ => ⟨⟨by omega, by omega, by omega⟩, fun _ => ?_⟩⟩⟩
      refine ⟨⟨k + 1, by omega⟩, by show max xs.length ys.length - (k + 1) < max xs.length ys.length - k; omega, ?_⟩
      rw [wrap_succ k (by omega), own_eq, len_snoc _ (addS (atF xs k) (atF ys k) (addAt xs ys k).2), List.drop_zero, List.drop_zero, List.take_length, List.take_length, Int.toNat_natCast]
      rfl
    · rw [max_if] at h
      simp only [decide_eq_false_iff_not] at h
      obtain rfl : k = max xs.length ys.length := by omega
      refine ⟨rfl, DoesL.ends hE 100 (rsum_end atF addS addC cutF xs ys _ _ _) ⟨⟨by omega, by omega, by omega⟩, fun _ => ?_⟩⟩
      have e : List.take ((addAt xs ys (max xs.length ys.length)).1.length + 1) (List.drop 0 (List.take (addAt xs ys (max xs.length ys.length)).1.length (List.drop 0 (addAt xs ys (max xs.length ys.length)).1) ++ [b2u (addAt xs ys (max xs.length ys.length)).2])) = (addAt xs ys (max xs.length ys.length)).1 ++ [b2u (addAt xs ys (max xs.length ys.length)).2] := by
        rw [own_eq, List.drop_zero, len_snoc _ (b2u (addAt xs ys (max xs.length ys.length)).2), List.take_length]
      rw [e, own_eq]
      refine ⟨⟨⟨by simp, by omega, rfl, rfl⟩, by show _ < _; rw [List.length_append, hl]; simp; omega⟩, fun _ => reads_p ?_ ?_⟩
      · rw [List.take_length]; rfl
      · exact Nat.le_refl _

/-! Less -/
noncomputable abbrev rlessC : List Code := flat (codeOf Try.f139)
noncomputable abbrev rlessB : Code := loopAt Try.f139 0
abbrev rLI : Res (List UInt64 × Int) := resSl2 eU64 22
abbrev oLI : Out (List UInt64 × Int) := outSl2 eU64 22
def rlessSt (xs ys out : List UInt64) (c : Bool) (z : Int) : St := mkSt 42 [(0, inV 0 xs), (1, inV 1 ys), (6, slV 2 out), (7, bitV c), (8, vI z)] [inHE eU64 xs, inHE eU64 ys, ownL out]
noncomputable abbrev rlessE (pF : List UInt64 → List UInt64 → Int) (lF : List UInt64 → Nat → UInt64) (S : UInt64 → UInt64 → Bool → UInt64) (C : UInt64 → UInt64 → Bool → Bool) (cF : List UInt64 → List UInt64) : Env :=
  Ens [(145, K2 aLc aLc kInt.rs.res pF), (143, K2 aL argNat kU64.rs.res lF), (137, K3x S C), (144, K1 aLc rL cF)] [144]
theorem rlessE_ok : EnvOk (rlessE cmpR atF subS subB cutF) := Ens_ok (.cons rcmp_ok (.cons limb_ok (.cons sub64_ok (.cons cut_ok .nil))))

theorem rless_start (pF : List UInt64 → List UInt64 → Int) (lF : List UInt64 → Nat → UInt64) (S : UInt64 → UInt64 → Bool → UInt64) (C : UInt64 → UInt64 → Bool → Bool) (cF : List UInt64 → List UInt64) (xs ys : List UInt64) : segT (rlessE pF lF S C cF) oLI 100 Try.f139 (rlessC.take 6) (startSt Try.f139 [iL.av 0 xs, iL.av 1 ys] [inHE eU64 xs, inHE eU64 ys]) [0, 1, 6, 7, 8] [0, 1] [(0, .as), (1, .as), (6, .nil 2), (7, .bit), (8, .int)] [] [(22, .u64)] =
  (.vc (((0 + xs.length ≤ xs.length ∧ xs.length < 1125899906842624 ∧ 0 = 0 ∧ 1 = 1) ∧ short (List.take xs.length (List.drop 0 xs))) ∧ (0 + ys.length ≤ ys.length ∧ ys.length < 1125899906842624 ∧ 0 = 0 ∧ 1 = 1) ∧ short (List.take ys.length (List.drop 0 ys)))
    (.br (decide (pF (List.take xs.length (List.drop 0 xs)) (List.take ys.length (List.drop 0 ys)) < 0))
      (.leaf (.inr (some ((([], 1), .t)))))
      (.leaf (.inl (mkSt 42 [(0, .one (.c (.slc 0 0 (xs.length) 1 (.of 0) false))), (1, .one (.c (.slc 1 0 (ys.length) 1 (.of 0) false))), (6, .one (.c (.slc 2 0 0 1 (.of 0) false))), (7, .one (.c (.bit (false)))), (8, .one (.c (.int .i64 0)))] [.live ⟨false, 0, 1, (.elts .u64 (xs : List UInt64)), false⟩, .live ⟨false, 0, 1, (.elts .u64 (ys : List UInt64)), false⟩, .live ⟨true, 22, 1, (.elts .u64 ([] : List UInt64)), false⟩]))))) := by kernel_rfl
theorem rless_round (pF : List UInt64 → List UInt64 → Int) (lF : List UInt64 → Nat → UInt64) (S : UInt64 → UInt64 → Bool → UInt64) (C : UInt64 → UInt64 → Bool → Bool) (cF : List UInt64 → List UInt64) (xs ys out : List UInt64) (c : Bool) (z : Int) : roundT (rlessE pF lF S C cF) 100 rlessB (rlessSt xs ys out c z) (fun x => match x with | .normal => some ([0, 1, 6, 7, 8], [0, 1, 4]) | _ => some ([0, 1, 6, 7, 8], [0, 1, 2])) =
  (.vc (0 + xs.length * 1 ≤ (List.map EK.u64.cell xs).length ∧ 0 < 1)
    (.vc (0 + ys.length * 1 ≤ (List.map EK.u64.cell ys).length ∧ 0 < 1)
      (.br (decide (z < if (↑ys.length : Int) > (↑xs.length : Int) then (↑ys.length : Int) else (↑xs.length : Int)))
        (.vc ((0 + xs.length ≤ xs.length ∧ xs.length < 1125899906842624 ∧ 0 = 0 ∧ 1 = 1) ∧ 0 ≤ z)
          (.vc ((0 + ys.length ≤ ys.length ∧ ys.length < 1125899906842624 ∧ 0 = 0 ∧ 1 = 1) ∧ 0 ≤ z)
            (.vc (0 + out.length ≤ out.length ∧ out.length + 1 ≤ 9223372036854775807 ∧ (out.length + 1) * 8 ≤ 140737488355328)
              (.leaf ((.normal, mkSt 42 [(0, .one (.c (.slc 0 0 (xs.length) 1 (.of 0) false))), (1, .one (.c (.slc 1 0 (ys.length) 1 (.of 0) false))), (6, .one (.c (.slc 2 0 (out.length + 1) 1 (.of 0) false))), (7, .one (.c (.bit (C (lF (List.take xs.length (List.drop 0 xs)) z.toNat) (lF (List.take ys.length (List.drop 0 ys)) z.toNat) c)))), (8, .one (.c (.int .i64 (IntKind.i64.wrap (z + 1)))))] [.live ⟨false, 0, 1, (.elts .u64 (xs : List UInt64)), false⟩, .live ⟨false, 0, 1, (.elts .u64 (ys : List UInt64)), false⟩, .live ⟨true, 22, 1, (.elts .u64 (List.take out.length (List.drop 0 out) ++ [S (lF (List.take xs.length (List.drop 0 xs)) z.toNat) (lF (List.take ys.length (List.drop 0 ys)) z.toNat) c] : List UInt64)), false⟩]))))))
        (.leaf ((.exit 0, mkSt 42 [(0, .one (.c (.slc 0 0 (xs.length) 1 (.of 0) false))), (1, .one (.c (.slc 1 0 (ys.length) 1 (.of 0) false))), (6, .one (.c (.slc 2 0 (out.length) 1 (.of 0) false))), (7, .one (.c (.bit (c)))), (8, .one (.c (.int .i64 (z))))] [.live ⟨false, 0, 1, (.elts .u64 (xs : List UInt64)), false⟩, .live ⟨false, 0, 1, (.elts .u64 (ys : List UInt64)), false⟩, .live ⟨true, 22, 1, (.elts .u64 (out : List UInt64)), false⟩])))))) := by kernel_rfl
theorem rless_end (pF : List UInt64 → List UInt64 → Int) (lF : List UInt64 → Nat → UInt64) (S : UInt64 → UInt64 → Bool → UInt64) (C : UInt64 → UInt64 → Bool → Bool) (cF : List UInt64 → List UInt64) (xs ys out : List UInt64) (c : Bool) (z : Int) : endT (rlessE pF lF S C cF) oLI 100 Try.f139 (rlessC.drop 7) (rlessSt xs ys out c z) =
  (.vc ((0 + out.length ≤ out.length ∧ out.length < 1125899906842624 ∧ 0 = 0 ∧ 1 = 1) ∧ short (List.take out.length (List.drop 0 out)))
    (.leaf (some (((List.take (cF (List.take out.length (List.drop 0 out))).length (cF (List.take out.length (List.drop 0 out))), 0), (.p ((cF (List.take out.length (List.drop 0 out))).length ≤ (cF (List.take out.length (List.drop 0 out))).length))))))) := by kernel_rfl

/-- The difference of the first limbs, and its borrow. -/
def subAt (xs ys : List UInt64) : Nat → List UInt64 × Bool
  | 0 => ([], false)
  | k + 1 => ((subAt xs ys k).1 ++ [subS (atF xs k) (atF ys k) (subAt xs ys k).2], subB (atF xs k) (atF ys k) (subAt xs ys k).2)
theorem subAt_len (xs ys : List UInt64) : ∀ k, (subAt xs ys k).1.length = k
  | 0 => rfl
  | k + 1 => by simp only [subAt, List.length_append, subAt_len xs ys k, List.length_singleton]
def rlessF (xs ys : List UInt64) : List UInt64 × Int := if cmpR xs ys < 0 then ([], 1) else (cutF (subAt xs ys (max xs.length ys.length)).1, 0)

theorem rless_ok : CallOk Try.prog 139 (K2 aLt aLt rLI rlessF) :=
  G2 (E := rlessE cmpR atF subS subB cutF) Try.func139 (c := codeOf Try.f139) (by kernel_rfl) (bodied Try.func139 (by kernel_rfl) (by kernel_rfl)) iLt iLt oLI rlessF fun xs ys hx hy => by
    have hx : xs.length < 4294967296 := hx.2
    have hy : ys.length < 4294967296 := hy.2
    have hE := rlessE_ok
    refine DoesL.seg hE 100 6 _ _ _ _ _ (rless_start cmpR atF subS subB cutF xs ys) ?_
    refine ⟨⟨okC (by omega), okC (by omega)⟩, fun _ => ⟨fun h => ?_, fun h => ?_⟩⟩
    · rw [whole, whole] at h
      simp only [decide_eq_true_eq] at h
      exact reads_t (by rw [rlessF, if_pos h])
    rw [whole, whole] at h
    simp only [decide_eq_false_iff_not] at h
    have ex : rlessF xs ys = (cutF (subAt xs ys (max xs.length ys.length)).1, 0) := by rw [rlessF, if_neg h]
    refine DoesL.blockLoop (B := rlessB) (rest := rlessC.drop 7) (id := 0) (by kernel_rfl) (fun k : { k : Nat // k ≤ max xs.length ys.length } => rlessSt xs ys (subAt xs ys k.1).1 (subAt xs ys k.1).2 (k.1 : Int)) (fun k => max xs.length ys.length - k.1) ⟨0, by omega⟩ fun k => ?_
    obtain ⟨k, hk⟩ := k
    have hl := subAt_len xs ys k
    show Does _ _ (rlessSt xs ys (subAt xs ys k).1 (subAt xs ys k).2 (k : Int)) _
    refine Does.round hE 100 _ (rless_round cmpR atF subS subB cutF xs ys _ _ (k : Int)) ⟨vcLen xs, fun _ => ⟨vcLen ys, fun _ => ⟨fun h => ?_, fun h => ?_⟩⟩⟩
    · rw [max_if] at h
      simp only [decide_eq_true_eq] at h
      refine ⟨⟨okL' (by omega), by omega⟩, fun _ => ⟨⟨okL' (by omega), by omega⟩, fun _ => ⟨⟨by omega, by omega, by omega⟩, fun _ => ?_⟩⟩⟩
      refine ⟨⟨k + 1, by omega⟩, by show max xs.length ys.length - (k + 1) < max xs.length ys.length - k; omega, ?_⟩
      rw [wrap_succ k (by omega), own_eq, len_snoc _ (subS (atF xs k) (atF ys k) (subAt xs ys k).2), whole, whole, Int.toNat_natCast]
      rfl
    · rw [max_if] at h
      simp only [decide_eq_false_iff_not] at h
      obtain rfl : k = max xs.length ys.length := by omega
      refine ⟨rfl, DoesL.ends hE 100 (rless_end cmpR atF subS subB cutF xs ys _ _ _) ⟨okC (by omega), fun _ => ?_⟩⟩
      rw [whole]
      refine reads_p ?_ (Nat.le_refl _)
      rw [List.take_length, ex]

end Go.Proofs.Ytchlamfdofpolaa
/- The document's functions on numbers of limbs, part e: halves. -/
set_option linter.unusedSimpArgs false
set_option linter.unusedVariables false
namespace Go.Proofs.Ytchlamfdofpolaa
open Go.RowKit

/-! half -/
noncomputable abbrev rhalfC : List Code := flat (codeOf Try.f119)
noncomputable abbrev rhalfB : Code := loopAt Try.f119 0
def rhalfSt (xs out : List UInt64) (z : Int) : St := mkSt 29 [(0, inV 0 xs), (3, slV 1 out), (4, vI z)] [inHE eU64 xs, ownL out]
noncomputable abbrev rhalfE (lF : List UInt64 → Nat → UInt64) : Env := En [(143, K2 aL argNat kU64.rs.res lF)]
theorem rhalfE_ok : EnvOk (rhalfE atF) := En_ok (.cons limb_ok .nil)

theorem rhalf_start (lF : List UInt64 → Nat → UInt64) (xs : List UInt64) : stageG (rhalfE lF) 100 (rhalfC.take 3) (startSt Try.f119 [iL.av 0 xs] [inHE eU64 xs]) [0, 3, 4] [0, 1] [(0, .as), (3, .as), (4, .int)] [] [] =
  (.vc (0 + xs.length * 1 ≤ (List.map EK.u64.cell xs).length ∧ 0 < 1)
    (.vc (0 ≤ (↑xs.length : Int) ∧ (↑xs.length : Int) ≤ (↑xs.length : Int) ∧ (↑8 : Int) * (↑xs.length : Int) ≤ 281474976710656 ∧ (↑xs.length : Int) < 1125899906842624)
      (.leaf (mkSt 29 [(0, .one (.c (.slc 0 0 (xs.length) 1 (.of 0) false))), (3, .one (.c (.slc 1 0 ((↑xs.length : Int).toNat) 1 (.of 0) false))), (4, .one (.c (.int .i64 0)))] [.live ⟨false, 0, 1, (.elts .u64 (xs : List UInt64)), false⟩, .live ⟨true, 22, 1, (.elts .u64 (List.replicate (↑xs.length : Int).toNat 0 : List UInt64)), false⟩])))) := by kernel_rfl
theorem rhalf_round (lF : List UInt64 → Nat → UInt64) (xs out : List UInt64) (z : Int) : roundT (rhalfE lF) 100 rhalfB (rhalfSt xs out z) (same [0, 3, 4] [0, 1]) =
  (.vc (0 + xs.length * 1 ≤ (List.map EK.u64.cell xs).length ∧ 0 < 1)
    (.br (decide (z < (↑xs.length : Int)))
      (.vc ((0 ≤ z ∧ z < (↑xs.length : Int)) ∧ 0 + xs.length * 1 ≤ (List.map EK.u64.cell xs).length ∧ 0 < 1)
        (.vc (0 + z.toNat * 1 < xs.length)
          (.vc ((0 + xs.length ≤ xs.length ∧ xs.length < 1125899906842624 ∧ 0 = 0 ∧ 1 = 1) ∧ 0 ≤ IntKind.i64.wrap (z + 1))
            (.vc ((0 ≤ z ∧ z < (↑out.length : Int)) ∧ 0 + out.length * 1 ≤ (List.map EK.u64.cell out).length ∧ 0 < 1)
              (.vc (0 + z.toNat * 1 < out.length)
                (.leaf ((.normal, mkSt 29 [(0, .one (.c (.slc 0 0 (xs.length) 1 (.of 0) false))), (3, .one (.c (.slc 1 0 (out.length) 1 (.of 0) false))), (4, .one (.c (.int .i64 (IntKind.i64.wrap (z + 1)))))] [.live ⟨false, 0, 1, (.elts .u64 (xs : List UInt64)), false⟩, .live ⟨true, 22, 1, (.elts .u64 (out.set (0 + z.toNat * 1) (shrU (xs.getD (0 + z.toNat * 1) 0) 1 + shlU (lF (List.take xs.length (List.drop 0 xs)) (IntKind.i64.wrap (z + 1)).toNat) 63) : List UInt64)), false⟩]))))))))
      (.leaf ((.exit 0, mkSt 29 [(0, .one (.c (.slc 0 0 (xs.length) 1 (.of 0) false))), (3, .one (.c (.slc 1 0 (out.length) 1 (.of 0) false))), (4, .one (.c (.int .i64 (z))))] [.live ⟨false, 0, 1, (.elts .u64 (xs : List UInt64)), false⟩, .live ⟨true, 22, 1, (.elts .u64 (out : List UInt64)), false⟩]))))) := by kernel_rfl
theorem rhalf_end (lF : List UInt64 → Nat → UInt64) (xs out : List UInt64) (z : Int) : endT (rhalfE lF) oL 100 Try.f119 (rhalfC.drop 4) (rhalfSt xs out z) =
  (.leaf (some ((List.take out.length out, (.p (out.length ≤ out.length)))))) := by kernel_rfl

/-! halves -/
def rhvsSt (xs out : List UInt64) (z : Int) : St := mkSt 25 [(0, inV 0 xs), (3, slV 1 out), (4, vI z)] [inHE eU64 xs, ownL out]
def halfAt (xs : List UInt64) : Nat → List UInt64
  | 0 => List.replicate xs.length 0
  | k + 1 => (halfAt xs k).set k (shrU (atF xs k) 1 + shlU (atF xs (k + 1)) 63)
theorem halfAt_len (xs : List UInt64) : ∀ k, (halfAt xs k).length = xs.length
  | 0 => by simp [halfAt]
  | k + 1 => by simp only [halfAt, List.length_set, halfAt_len xs k]
def rhalfF (xs : List UInt64) : List UInt64 := halfAt xs xs.length

theorem rhalf_st0 (xs : List UInt64) (n : Nat) (hn : n = xs.length) : mkSt 29 [(0, inV 0 xs), (3, .one (.c (.slc 1 0 n 1 (.of 0) false))), (4, vI 0)] [inHE eU64 xs, ownL (List.replicate n 0)] = rhalfSt xs (halfAt xs 0) ((0 : Nat) : Int) := by
  subst hn
  have : (List.replicate xs.length (0 : UInt64)).length = xs.length := by simp
  unfold rhalfSt slV halfAt
  rw [this]
  rfl

theorem rhalf_ok : CallOk Try.prog 119 (K1 aLt rL rhalfF) :=
  G1 (E := rhalfE atF) Try.func119 (c := codeOf Try.f119) (by kernel_rfl) (bodied Try.func119 (by kernel_rfl) (by kernel_rfl)) iLt oL rhalfF fun xs hx => by
    have hx : xs.length < 4294967296 := hx.2
    have hE := rhalfE_ok
    refine DoesL.stageG hE 100 3 _ _ _ _ _ (rhalf_start atF xs) ⟨vcLen xs, fun _ => ⟨⟨by omega, by omega, by omega, by omega⟩, fun _ => ?_⟩⟩
    refine (?_ : DoesL _ _ (mkSt 29 [(0, inV 0 xs), (3, .one (.c (.slc 1 0 (xs.length : Int).toNat 1 (.of 0) false))), (4, vI 0)] [inHE eU64 xs, ownL (List.replicate (xs.length : Int).toNat 0)]) _)
    rw [rhalf_st0 xs _ (Int.toNat_natCast _)]
    refine DoesL.blockLoop (B := rhalfB) (rest := rhalfC.drop 4) (id := 0) (by kernel_rfl) (fun k : { k : Nat // k ≤ xs.length } => rhalfSt xs (halfAt xs k.1) (k.1 : Int)) (fun k => xs.length - k.1) ⟨0, by omega⟩ fun k => ?_
    obtain ⟨k, hk⟩ := k
    have hl := halfAt_len xs k
    show Does _ _ (rhalfSt xs (halfAt xs k) (k : Int)) _
    refine Does.round hE 100 _ (rhalf_round atF xs (halfAt xs k) (k : Int)) ⟨vcLen xs, fun _ => ⟨fun h => ?_, fun h => ?_⟩⟩
    · simp only [decide_eq_true_eq] at h
      have hk' : k < xs.length := by omega
      have hk2 : k < (halfAt xs k).length := by omega
      rw [wrap_succ k (by omega)]
      refine ⟨vcIdx hk', fun _ => ⟨vcGet hk', fun _ => ⟨⟨okL' (by omega), by omega⟩, fun _ => ⟨vcIdx hk2, fun _ => ⟨vcGet hk2, fun _ => ?_⟩⟩⟩⟩⟩
      refine ⟨⟨k + 1, by omega⟩, by show xs.length - (k + 1) < xs.length - k; omega, ?_⟩
      rw [getZ, whole, Int.toNat_natCast, Nat.zero_add, Nat.mul_one, Int.toNat_natCast]
      have e : (halfAt xs (k + 1)).length = (halfAt xs k).length := by rw [halfAt_len, halfAt_len]
      show _ = rhalfSt xs (halfAt xs (k + 1)) ((k + 1 : Nat) : Int)
      unfold rhalfSt slV
      rw [e]
      rfl
    · simp only [decide_eq_false_iff_not] at h
      obtain rfl : k = xs.length := by omega
      refine ⟨rfl, DoesL.ends hE 100 (rhalf_end atF xs _ _) (reads_p ?_ (Nat.le_refl _))⟩
      rw [List.take_length]; rfl

def hvsAt (xs : List UInt64) : Nat → List UInt64
  | 0 => []
  | k + 1 => hvsAt xs k ++ [atF xs k &&& 4294967295, shrU (atF xs k) 32]
theorem hvsAt_len (xs : List UInt64) : ∀ k, (hvsAt xs k).length = 2 * k
  | 0 => rfl
  | k + 1 => by simp only [hvsAt, List.length_append, hvsAt_len xs k, List.length_cons, List.length_nil]; omega
def rhvsF (xs : List UInt64) : List UInt64 := hvsAt xs xs.length

end Go.Proofs.Ytchlamfdofpolaa
