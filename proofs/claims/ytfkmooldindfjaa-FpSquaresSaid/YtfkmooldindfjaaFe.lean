/- The base field's functions, part e: limbs of slices, comparisons. -/
import Derived.Test.YtfkmooldindfjaaEu
import Derived.IntWalk
import Derived.Test.YtfkmooldindfjaaFd
set_option linter.unusedSimpArgs false
set_option linter.unusedVariables false
namespace Go.Proofs.Ytfkmooldindfjaa
open Go.RowKit

/-- A number that is not below 0. -/
def argNat : Arg Nat where
  rd := fun _ v => match v with
    | .one (.c (.lit .i64 n)) => match decide (0 ≤ n) with
      | true => some (n.toNat, .t, [])
      | false => none
    | .one (.c (.int .i64 n)) => some (n.toNat, .p (0 ≤ n), [])
    | _ => none
  is := fun _ v x => v = .int .i64 (x : Int)
  ok := fun {w0 β h w v x p rs} e hp _ _ => by
    split at e
    · split at e
      · rename_i hd
        cases e
        simp only [decide_eq_true_eq] at hd
        simp only [gv, g1, gc]
        congr 1
        omega
      · cases e
    · cases e
      have : (0 : Int) ≤ _ := hp
      simp only [gv, g1, gc]
      congr 1
      omega
    · cases e
  near := fun e _ => e

def inpNat : Inp Nat where
  arg := argNat
  av := fun _ x => .one (.c (.int .i64 (x : Int)))
  hes := fun _ => []
  fact := fun _ => True
  known := fun _ => trivial
  intro := fun {w0 β heap w v x} hr _ hv => ⟨β, by rw [List.append_nil]; exact hr, hv.symm, okc_none rfl, fun _ _ => rfl⟩

abbrev oU : Out UInt64 := kU64.rs.out
abbrev iL : Inp (List UInt64) := inpSl eU64
abbrev aL : Arg (List UInt64) := argSl eU64

def atF (xs : List UInt64) (i : Nat) : UInt64 := xs.getD i 0

theorem at_run (xs : List UInt64) (i : Nat) : endT (En []) oU 100 Try.f68 (flat (codeOf Try.f68)) (startSt Try.f68 [iL.av 0 xs, inpNat.av 1 i] [inHE eU64 xs]) =
    .vc (0 + xs.length * 1 ≤ (eU64.body xs).cells.length ∧ 0 < 1) (.br (decide ((i : Int) < (xs.length : Int))) (.vc ((0 ≤ (i : Int) ∧ (i : Int) < (xs.length : Int)) ∧ (0 + xs.length * 1 ≤ (eU64.body xs).cells.length ∧ 0 < 1)) (.vc (0 + (i : Int).toNat * 1 < xs.length) (.leaf (some (xs.getD (0 + (i : Int).toNat * 1) 0, .t)))))
      (.leaf (some (0, .t)))) := by kernel_rfl

theorem at_ok : CallOk Try.prog 68 (K2 aL argNat kU64.rs.res atF) :=
  G2 (E := En []) Try.func68 (c := codeOf Try.f68) (by kernel_rfl) (bodied Try.func68 (by kernel_rfl) (by kernel_rfl)) iL inpNat oU atF fun xs i _ _ => by
    refine DoesL.ends (En_ok .nil) 100 (at_run xs i) ⟨⟨by simp [eU64, Body.cells], by decide⟩, fun _ => ⟨fun h => ?_, fun h => ?_⟩⟩
    · simp only [decide_eq_true_eq] at h
      refine ⟨⟨⟨by omega, h⟩, by simp [eU64, Body.cells], by decide⟩, fun _ => ⟨by omega, fun _ => ⟨.t, ?_, trivial⟩⟩⟩
      simp [atF]
    · simp only [decide_eq_false_iff_not] at h
      refine ⟨.t, ?_, trivial⟩
      have : xs.length ≤ i := by omega
      simp [atF, List.getElem?_eq_none this]

def scopeAt : Code → Option Code
  | .scope a => some a
  | .seq a b => match scopeAt a with | some c => some c | none => scopeAt b
  | .block _ a => scopeAt a
  | _ => none
/-- The body of a function's first scope, and what is behind its first label. -/
def scopeOf (fn : Func) : Code := match scopeAt (codeOf fn) with | some c => c | none => .skip
def restOf (fn : Func) : Code := match findLabel (scopeOf fn) 0 with | some c => c | none => .skip

abbrev vI (z : Int) : AV := .one (.c (.int .i64 z))
abbrev oI : Out Int := kInt.rs.out
/-- That a whole slice is one that a call takes. -/
abbrev okL (xs : List UInt64) : Prop := 0 + xs.length ≤ xs.length ∧ xs.length < topLen ∧ RC.fits (.of 0) 0 xs.length 1 1

def cmpSt (xs ys : List UInt64) (z : Int) : St := mkSt 31 [(0, inV 0 xs), (1, inV 1 ys), (5, vI z)] [inHE eU64 xs, inHE eU64 ys]

def maxI (xs ys : List UInt64) : Int := if (ys.length : Int) > xs.length then ys.length else xs.length

theorem cmp_front (T : Table) (xs ys : List UInt64) : stageT (En T) 100 ((flat (codeOf Try.f49)).take 1) (startSt Try.f49 [iL.av 0 xs, iL.av 1 ys] [inHE eU64 xs, inHE eU64 ys]) [0, 1] [0, 1] =
    .leaf (mkSt 31 [(0, inV 0 xs), (1, inV 1 ys)] [inHE eU64 xs, inHE eU64 ys]) := by kernel_rfl
theorem cmp_start (T : Table) (xs ys : List UInt64) : stageT (En T) 100 ((flat (scopeOf Try.f49)).take 2) (mkSt 31 [(0, inV 0 xs), (1, inV 1 ys)] [inHE eU64 xs, inHE eU64 ys]) [0, 1, 5] [0, 1] =
    .vc (0 + xs.length * 1 ≤ (eU64.body xs).cells.length ∧ 0 < 1) (.vc (0 + ys.length * 1 ≤ (eU64.body ys).cells.length ∧ 0 < 1) (.leaf (cmpSt xs ys (maxI xs ys)))) := by kernel_rfl

theorem cmp_iter (aF : List UInt64 → Nat → UInt64) (xs ys : List UInt64) (z : Int) : iterT (En [(68, K2 aL argNat kU64.rs.res aF)]) oI 100 Try.f49 ((flat (scopeOf Try.f49)).drop 2) (cmpSt xs ys z) [0, 1, 5] [0, 1] =
    .br (decide (IntKind.i64.wrap (z - 1) < 0)) (.leaf (.inr (some (0, .t))))
      (.vc (okL xs ∧ 0 ≤ IntKind.i64.wrap (z - 1)) (.vc (okL ys ∧ 0 ≤ IntKind.i64.wrap (z - 1))
        (.br (decide (aF ((xs.drop 0).take xs.length) (IntKind.i64.wrap (z - 1)).toNat < aF ((ys.drop 0).take ys.length) (IntKind.i64.wrap (z - 1)).toNat)) (.leaf (.inr (some (-1, .t))))
          (.br (decide (aF ((xs.drop 0).take xs.length) (IntKind.i64.wrap (z - 1)).toNat > aF ((ys.drop 0).take ys.length) (IntKind.i64.wrap (z - 1)).toNat)) (.leaf (.inr (some (1, .t))))
            (.leaf (.inl (.goto 0, cmpSt xs ys (IntKind.i64.wrap (z - 1))))))))) := by kernel_rfl

/-- The comparison of the limbs below n, from the top. -/
def cmpAt (xs ys : List UInt64) : Nat → Int
  | 0 => 0
  | n + 1 => if atF xs n < atF ys n then -1 else if atF xs n > atF ys n then 1 else cmpAt xs ys n
def cmpF (xs ys : List UInt64) : Int := cmpAt xs ys (maxI xs ys).toNat

theorem cells_len (xs : List UInt64) : (eU64.body xs).cells.length = xs.length := by simp [eU64, Body.cells]
theorem okL_of {xs : List UInt64} (h : xs.length < topLen) : okL xs := ⟨by omega, h, by simp [RC.fits]⟩

abbrev CmpOk (xs ys : List UInt64) : Type := { z : Int // 0 ≤ z ∧ z < topLen ∧ cmpAt xs ys z.toNat = cmpF xs ys }
def cmpI (xs ys : List UInt64) (z : CmpOk xs ys) : St := cmpSt xs ys z.1

theorem cmp_ok : CallOk Try.prog 49 (K2 aL aL kInt.rs.res cmpF) :=
  G2 (E := En [(68, K2 aL argNat kU64.rs.res atF)]) Try.func49 (c := codeOf Try.f49) (by kernel_rfl) (bodied Try.func49 (by kernel_rfl) (by kernel_rfl)) iL iL oI cmpF fun xs ys hx hy => by
    have hE : EnvOk (En [(68, K2 aL argNat kU64.rs.res atF)]) := En_ok (.cons at_ok .nil)
    have hx : xs.length < 1125899906842624 := hx
    have hy : ys.length < 1125899906842624 := hy
    have hm : 0 ≤ maxI xs ys ∧ maxI xs ys < topLen := by unfold maxI topLen; split <;> omega
    refine DoesL.stageE hE 100 1 [0, 1] [0, 1] (cmp_front _ xs ys) ?_
    refine DoesL.scopeFn (body := scopeOf Try.f49) (rest := restOf Try.f49) (tail := []) (l := 0) hE (by kernel_rfl) (by kernel_rfl) 100 2 (by kernel_rfl) [0, 1, 5] [0, 1] (cmpI xs ys) (fun z => z.1.toNat)
      ⟨maxI xs ys, hm.1, hm.2, rfl⟩ (cmp_start _ xs ys) ⟨⟨by rw [cells_len]; omega, by decide⟩, fun _ => ⟨⟨by rw [cells_len]; omega, by decide⟩, fun _ => rfl⟩⟩ fun z => ?_
    · obtain ⟨z, h0, h1, h2⟩ := z
      have h1 : z < 1125899906842624 := h1
      have hw : IntKind.i64.wrap (z - 1) = z - 1 := IntWalk.i64_in _ (by omega)
      refine DoesL.iter hE 100 [0, 1, 5] [0, 1] (cmp_iter atF xs ys z) ?_
      rw [hw]
      simp only [List.drop_zero, List.take_length]
      refine ⟨fun h => ?_, fun h => ⟨⟨okL_of hx, ?_⟩, fun _ => ⟨⟨okL_of hy, ?_⟩, fun _ => ⟨fun h3 => ?_, fun h3 => ⟨fun h4 => ?_, fun h4 => ?_⟩⟩⟩⟩⟩
      · simp only [decide_eq_true_eq] at h
        obtain rfl : z = 0 := by omega
        exact ⟨.t, by rw [← h2]; rfl, trivial⟩
      all_goals simp only [decide_eq_false_iff_not] at h
      · omega
      · omega
      all_goals
        obtain ⟨n, rfl⟩ : ∃ n : Nat, z = (n : Int) + 1 := ⟨(z - 1).toNat, by omega⟩
        rw [show ((n : Int) + 1).toNat = n + 1 by omega] at h2
        rw [show ((n : Int) + 1 - 1).toNat = n by omega] at h3
        simp only [cmpAt] at h2
      · simp only [decide_eq_true_eq] at h3
        rw [if_pos h3] at h2
        exact ⟨.t, by rw [← h2], trivial⟩
      · rw [show ((n : Int) + 1 - 1).toNat = n by omega] at h4
        simp only [decide_eq_false_iff_not] at h3
        simp only [decide_eq_true_eq] at h4
        rw [if_neg h3, if_pos h4] at h2
        exact ⟨.t, by rw [← h2], trivial⟩
      · rw [show ((n : Int) + 1 - 1).toNat = n by omega] at h4
        simp only [decide_eq_false_iff_not] at h3 h4
        rw [if_neg h3, if_neg h4] at h2
        exact ⟨rfl, ⟨(n : Int) + 1 - 1, by omega, by unfold topLen; omega, by rw [show ((n : Int) + 1 - 1).toNat = n by omega]; exact h2⟩, by simp only []; omega, rfl⟩

end Go.Proofs.Ytfkmooldindfjaa
