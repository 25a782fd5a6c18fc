/- G1Small: what its function computes. -/
import Derived.Test.YtchlamfdofpolaaQi
set_option linter.unusedSimpArgs false
set_option linter.unusedVariables false
namespace Go.Proofs.Ytchlamfdofpolaa
open Go.RowKit

abbrev kg1 : Kd Pg1 := kRow Pg1
noncomputable abbrev sm1C : List Code := flat (codeOf Try.f7)
noncomputable abbrev sm1B : Code := loopAt Try.f7 0
noncomputable abbrev sm1E (b : Bool) (oF' : UInt64 → Pg1 × Bool) (mF : Fr → Bool) (aF : Pg1 → Pg1 → Pg1) (g : Pg1) (uF : Pg1 → Fr → Pg1) (nF : Fr → Fr) (eF : Pg1 → Pg1 → Bool) (gF : Pg1 → Pg1) : Env := En [(15, K0 kBool.rs.res b), (28, K1 kU64.arg (kg1.rs2 kBool).res oF'), (16, Krb mF), (18, K2 kg1.arg kg1.arg kg1.rs.res aF), (29, K0 kg1.rs.res g), (22, K2 kg1.arg (kRow Fr).arg kg1.rs.res uF), (34, Kr1 nF), (24, K2 kg1.arg kg1.arg kBool.rs.res eF), (20, K1 kg1.arg kg1.rs.res gF)]
def sm1N : List Cell := List.replicate 12 (.lit .u64 0) ++ [.tt]
def sm1St (k : UInt8) (a : Fr) (p : Pg1) (cs : List Cell) (z : Int) : St := mkSt 66 [(1, .one (kU8.av k)), (5, ptrV 0), (7, ptrV 1), (9, ptrV 2), (10, vI z)] [own 24 (Row.cs a), own 30 (Row.cs p), own 30 cs]
theorem sm1_start (b : Bool) (oF' : UInt64 → Pg1 × Bool) (mF : Fr → Bool) (aF : Pg1 → Pg1 → Pg1) (g : Pg1) (uF : Pg1 → Fr → Pg1) (nF : Fr → Fr) (eF : Pg1 → Pg1 → Bool) (gF : Pg1 → Pg1) (n : UInt64) (k : UInt8) (a : Fr) : segT (sm1E b oF' mF aF g uF nF eF gF) oB 300 Try.f7 (sm1C.take 8) (startSt Try.f7 [vU n, .one (kU8.av k), v4 a] []) [1, 5, 7, 9, 10] [0, 1, 2] [(1, .as), (5, .as), (7, .as), (9, .as), (10, .int)] [.as, .as, .as] [] =
  (.br (!(b))
    (.leaf (.inr (some ((false, .t)))))
    (.br (!((oF' n).snd))
      (.leaf (.inr (some ((true, .t)))))
      (.br (!(mF a))
        (.leaf (.inr (some ((true, .t)))))
        (.leaf (.inl (mkSt 66 [(1, .one (.c (.u8 (k)))), (5, .one (.c (.ptr 0 0))), (7, .one (.c (.ptr 1 0))), (9, .one (.c (.ptr 2 0))), (10, .one (.c (.int .i64 0)))] [.live ⟨true, 24, 0, (.row (Row.cs (a : Fr))), false⟩, .live ⟨true, 30, 0, (.row (Row.cs ((oF' n).fst : Pg1))), false⟩, .live ⟨true, 30, 0, (.row [(.lit .u64 0), (.lit .u64 0), (.lit .u64 0), (.lit .u64 0), (.lit .u64 0), (.lit .u64 0), (.lit .u64 0), (.lit .u64 0), (.lit .u64 0), (.lit .u64 0), (.lit .u64 0), (.lit .u64 0), .tt]), false⟩])))))) := by kernel_rfl
theorem sm1_round (b : Bool) (oF' : UInt64 → Pg1 × Bool) (mF : Fr → Bool) (aF : Pg1 → Pg1 → Pg1) (g : Pg1) (uF : Pg1 → Fr → Pg1) (nF : Fr → Fr) (eF : Pg1 → Pg1 → Bool) (gF : Pg1 → Pg1) (k : UInt8) (a : Fr) (p s : Pg1) (z : Int) : roundT (sm1E b oF' mF aF g uF nF eF gF) 100 sm1B (sm1St k a p (Row.cs s) z) (same [1, 5, 7, 9, 10] [0, 1, 2]) =
  (.br (decide (z < IntKind.i64.wrap ((↑k.toNat : Int).tmod 20)))
    (.leaf ((.normal, mkSt 66 [(1, .one (.c (.u8 (k)))), (5, .one (.c (.ptr 0 0))), (7, .one (.c (.ptr 1 0))), (9, .one (.c (.ptr 2 0))), (10, .one (.c (.int .i64 (IntKind.i64.wrap (z + 1)))))] [.live ⟨true, 24, 0, (.row (Row.cs (a : Fr))), false⟩, .live ⟨true, 30, 0, (.row (Row.cs (p : Pg1))), false⟩, .live ⟨true, 30, 0, (.row (Row.cs (aF s p : Pg1))), false⟩])))
    (.leaf ((.exit 0, mkSt 66 [(1, .one (.c (.u8 (k)))), (5, .one (.c (.ptr 0 0))), (7, .one (.c (.ptr 1 0))), (9, .one (.c (.ptr 2 0))), (10, .one (.c (.int .i64 (z))))] [.live ⟨true, 24, 0, (.row (Row.cs (a : Fr))), false⟩, .live ⟨true, 30, 0, (.row (Row.cs (p : Pg1))), false⟩, .live ⟨true, 30, 0, (.row (Row.cs (s : Pg1))), false⟩])))) := by kernel_rfl
theorem sm1_first (b : Bool) (oF' : UInt64 → Pg1 × Bool) (mF : Fr → Bool) (aF : Pg1 → Pg1 → Pg1) (g : Pg1) (uF : Pg1 → Fr → Pg1) (nF : Fr → Fr) (eF : Pg1 → Pg1 → Bool) (gF : Pg1 → Pg1) (k : UInt8) (a : Fr) (p : Pg1) (z : Int) : roundT (sm1E b oF' mF aF g uF nF eF gF) 100 sm1B (sm1St k a p sm1N z) (same [1, 5, 7, 9, 10] [0, 1, 2]) =
  (.br (decide (z < IntKind.i64.wrap ((↑k.toNat : Int).tmod 20)))
    (.leaf ((.normal, mkSt 66 [(1, .one (.c (.u8 (k)))), (5, .one (.c (.ptr 0 0))), (7, .one (.c (.ptr 1 0))), (9, .one (.c (.ptr 2 0))), (10, .one (.c (.int .i64 (IntKind.i64.wrap (z + 1)))))] [.live ⟨true, 24, 0, (.row (Row.cs (a : Fr))), false⟩, .live ⟨true, 30, 0, (.row (Row.cs (p : Pg1))), false⟩, .live ⟨true, 30, 0, (.row (Row.cs (aF { x := { l0 := UInt64.ofNat 0, l1 := UInt64.ofNat 0, l2 := UInt64.ofNat 0, l3 := UInt64.ofNat 0, l4 := UInt64.ofNat 0, l5 := UInt64.ofNat 0 }, y := { l0 := UInt64.ofNat 0, l1 := UInt64.ofNat 0, l2 := UInt64.ofNat 0, l3 := UInt64.ofNat 0, l4 := UInt64.ofNat 0, l5 := UInt64.ofNat 0 }, inf := true } p : Pg1))), false⟩])))
    (.leaf ((.exit 0, mkSt 66 [(1, .one (.c (.u8 (k)))), (5, .one (.c (.ptr 0 0))), (7, .one (.c (.ptr 1 0))), (9, .one (.c (.ptr 2 0))), (10, .one (.c (.int .i64 (z))))] [.live ⟨true, 24, 0, (.row (Row.cs (a : Fr))), false⟩, .live ⟨true, 30, 0, (.row (Row.cs (p : Pg1))), false⟩, .live ⟨true, 30, 0, (.row [(.lit .u64 0), (.lit .u64 0), (.lit .u64 0), (.lit .u64 0), (.lit .u64 0), (.lit .u64 0), (.lit .u64 0), (.lit .u64 0), (.lit .u64 0), (.lit .u64 0), (.lit .u64 0), (.lit .u64 0), .tt]), false⟩])))) := by kernel_rfl
theorem sm1_end (b : Bool) (oF' : UInt64 → Pg1 × Bool) (mF : Fr → Bool) (aF : Pg1 → Pg1 → Pg1) (g : Pg1) (uF : Pg1 → Fr → Pg1) (nF : Fr → Fr) (eF : Pg1 → Pg1 → Bool) (gF : Pg1 → Pg1) (k : UInt8) (a : Fr) (p s : Pg1) (z : Int) : endT (sm1E b oF' mF aF g uF nF eF gF) oB 300 Try.f7 (sm1C.drop 9) (sm1St k a p (Row.cs s) z) =
  (.br (eF (uF p { l0 := UInt64.ofNat ((↑k.toNat : Int).tmod 20 % 18446744073709551616).toNat, l1 := UInt64.ofNat 0, l2 := UInt64.ofNat 0, l3 := UInt64.ofNat 0 }) s)
    (.br (eF (uF (uF g a) (nF { l0 := UInt64.ofNat 1, l1 := UInt64.ofNat 0, l2 := UInt64.ofNat 0, l3 := UInt64.ofNat 0 })) (gF (uF g a)))
      (.leaf (some ((eF (gF (gF p)) p, .t))))
      (.leaf (some ((false, .t)))))
    (.leaf (some ((false, .t))))) := by kernel_rfl
theorem sm1_endN (b : Bool) (oF' : UInt64 → Pg1 × Bool) (mF : Fr → Bool) (aF : Pg1 → Pg1 → Pg1) (g : Pg1) (uF : Pg1 → Fr → Pg1) (nF : Fr → Fr) (eF : Pg1 → Pg1 → Bool) (gF : Pg1 → Pg1) (k : UInt8) (a : Fr) (p : Pg1) (z : Int) : endT (sm1E b oF' mF aF g uF nF eF gF) oB 300 Try.f7 (sm1C.drop 9) (sm1St k a p sm1N z) =
  (.br (eF (uF p { l0 := UInt64.ofNat ((↑k.toNat : Int).tmod 20 % 18446744073709551616).toNat, l1 := UInt64.ofNat 0, l2 := UInt64.ofNat 0, l3 := UInt64.ofNat 0 }) { x := { l0 := UInt64.ofNat 0, l1 := UInt64.ofNat 0, l2 := UInt64.ofNat 0, l3 := UInt64.ofNat 0, l4 := UInt64.ofNat 0, l5 := UInt64.ofNat 0 }, y := { l0 := UInt64.ofNat 0, l1 := UInt64.ofNat 0, l2 := UInt64.ofNat 0, l3 := UInt64.ofNat 0, l4 := UInt64.ofNat 0, l5 := UInt64.ofNat 0 }, inf := true })
    (.br (eF (uF (uF g a) (nF { l0 := UInt64.ofNat 1, l1 := UInt64.ofNat 0, l2 := UInt64.ofNat 0, l3 := UInt64.ofNat 0 })) (gF (uF g a)))
      (.leaf (some ((eF (gF (gF p)) p, .t))))
      (.leaf (some ((false, .t)))))
    (.leaf (some ((false, .t))))) := by kernel_rfl

/-- The small number as a scalar. -/
def smallFr (k : UInt8) : Fr := ⟨UInt64.ofNat ((k.toNat : Int).tmod 20 % 18446744073709551616).toNat, UInt64.ofNat 0, UInt64.ofNat 0, UInt64.ofNat 0⟩
theorem tmod_k (k : UInt8) : (k.toNat : Int).tmod 20 = ((k.toNat % 20 : Nat) : Int) := rfl
theorem wrap_k (k : UInt8) : IntKind.i64.wrap ((k.toNat : Int).tmod 20) = ((k.toNat % 20 : Nat) : Int) := by rw [tmod_k, IntWalk.i64_in _ (by omega)]
theorem gives_ends' {α ρ : Type} {E : Env} {f : FuncId} {fn : Func} (hf : E.P.funcs[f]? = some fn) {c : Code} (hb : fn.body = some c) (k : KdL α) (x : α) (o : Out ρ) {F : ρ} (w : World)
    (h : DoesL E (flat c) (startSt fn (k.avs x) []) (EndsAs E fn (Reads o F))) : Gives E.P f (k.vals x).toArray w o.res F := by
  have := gives_ends hf hb (HRel.start w β0) (avs := k.avs x) (fun v hv => k.av_id x _ v hv) h
  rw [k.av_ok] at this
  exact this
/-- The sum by steps. -/
def smallG1 (aF : Pg1 → Pg1 → Pg1) (p : Pg1) : Nat → Pg1
  | 0 => infG1
  | i + 1 => aF (smallG1 aF p i) p
def sm1Cs (aF : Pg1 → Pg1 → Pg1) (p : Pg1) : Nat → List Cell
  | 0 => sm1N
  | i + 1 => Row.cs (smallG1 aF p (i + 1))
theorem sm1_roundI (b : Bool) (oF' : UInt64 → Pg1 × Bool) (mF : Fr → Bool) (aF : Pg1 → Pg1 → Pg1) (g : Pg1) (uF : Pg1 → Fr → Pg1) (nF : Fr → Fr) (eF : Pg1 → Pg1 → Bool) (gF : Pg1 → Pg1) (k : UInt8) (a : Fr) (p : Pg1) (z : Int) (i : Nat) : roundT (sm1E b oF' mF aF g uF nF eF gF) 100 sm1B (sm1St k a p (sm1Cs aF p i) z) (same [1, 5, 7, 9, 10] [0, 1, 2]) =
    .br (decide (z < IntKind.i64.wrap ((k.toNat : Int).tmod 20))) (.leaf (.normal, sm1St k a p (sm1Cs aF p (i + 1)) (IntKind.i64.wrap (z + 1)))) (.leaf (.exit 0, sm1St k a p (sm1Cs aF p i) z)) := by
  cases i with
  | zero => exact sm1_first b oF' mF aF g uF nF eF gF k a p z
  | succ i => exact sm1_round b oF' mF aF g uF nF eF gF k a p (smallG1 aF p (i + 1)) z
theorem sm1_endI (b : Bool) (oF' : UInt64 → Pg1 × Bool) (mF : Fr → Bool) (aF : Pg1 → Pg1 → Pg1) (g : Pg1) (uF : Pg1 → Fr → Pg1) (nF : Fr → Fr) (eF : Pg1 → Pg1 → Bool) (gF : Pg1 → Pg1) (k : UInt8) (a : Fr) (p : Pg1) (z : Int) (i : Nat) : endT (sm1E b oF' mF aF g uF nF eF gF) oB 300 Try.f7 (sm1C.drop 9) (sm1St k a p (sm1Cs aF p i) z) =
    .br (eF (uF p (smallFr k)) (smallG1 aF p i)) (.br (eF (uF (uF g a) (nF oneFr)) (gF (uF g a))) (.leaf (some (eF (gF (gF p)) p, .t))) (.leaf (some (false, .t)))) (.leaf (some (false, .t))) := by
  cases i with
  | zero => exact sm1_endN b oF' mF aF g uF nF eF gF k a p z
  | succ i => exact sm1_end b oF' mF aF g uF nF eF gF k a p (smallG1 aF p (i + 1)) z
theorem sm1_gives {oF' : UInt64 → Pg1 × Bool} {mF : Fr → Bool} {aF : Pg1 → Pg1 → Pg1} {g : Pg1} {uF : Pg1 → Fr → Pg1} {nF : Fr → Fr} {eF : Pg1 → Pg1 → Bool} {gF : Pg1 → Pg1} (hE : EnvOk (sm1E true oF' mF aF g uF nF eF gF)) (n : UInt64) (k : UInt8) (a : Fr) (w : World)
    (h : (oF' n).2 = true → eF (uF (oF' n).1 (smallFr k)) (smallG1 aF (oF' n).1 (k.toNat % 20)) = true ∧ eF (uF (uF g a) (nF oneFr)) (gF (uF g a)) = true ∧ eF (gF (gF (oF' n).1)) (oF' n).1 = true) :
    Gives Try.prog 7 ((KdL.cons kU64 (KdL.cons kU8 (KdL.cons (kRow Fr) KdL.nil))).vals (n, k, a, ())).toArray w kBool.rs.res true :=
  gives_ends' (E := sm1E true oF' mF aF g uF nF eF gF) Try.func7 (c := codeOf Try.f7) (by kernel_rfl) (KdL.cons kU64 (KdL.cons kU8 (KdL.cons (kRow Fr) KdL.nil))) (n, k, a, ()) oB w (by
    refine DoesL.seg hE 300 8 _ _ _ _ _ (sm1_start true oF' mF aF g uF nF eF gF n k a) ⟨fun h1 => (by cases h1), fun _ => ⟨fun _ => ⟨.t, rfl, trivial⟩, fun h2 => ⟨fun _ => ⟨.t, rfl, trivial⟩, fun _ => ?_⟩⟩⟩
    have h2 : (oF' n).2 = true := by simpa using h2
    obtain ⟨h3, h4, h5⟩ := h h2
    clear h h2
    generalize (oF' n).1 = p at *
    refine (?_ : DoesL _ _ (sm1St k a p (sm1Cs aF p 0) ((0 : Nat) : Int)) _)
    refine DoesL.blockLoop (B := sm1B) (rest := sm1C.drop 9) (id := 0) (by kernel_rfl) (fun i : { i : Nat // i ≤ k.toNat % 20 } => sm1St k a p (sm1Cs aF p i.1) (i.1 : Int)) (fun i => k.toNat % 20 - i.1) ⟨0, Nat.zero_le _⟩ fun i => ?_
    obtain ⟨i, hi⟩ := i
    show Does _ _ (sm1St k a p (sm1Cs aF p i) (i : Int)) _
    refine Does.round hE 100 _ (sm1_roundI true oF' mF aF g uF nF eF gF k a p (i : Int) i) ?_
    rw [wrap_k]
    refine ⟨fun h1 => ?_, fun h1 => ?_⟩
    · simp only [decide_eq_true_eq] at h1
      have h1 : i < k.toNat % 20 := by omega
      rw [wrap_succ i (by omega)]
      exact ⟨⟨i + 1, h1⟩, by show k.toNat % 20 - (i + 1) < k.toNat % 20 - i; omega, rfl⟩
    · simp only [decide_eq_false_iff_not] at h1
      obtain rfl : i = k.toNat % 20 := by omega
      exact ⟨rfl, DoesL.ends hE 300 (sm1_endI true oF' mF aF g uF nF eF gF k a p _ _) ⟨fun _ => ⟨fun _ => reads_t h5, fun h6 => (by rw [h4] at h6; cases h6)⟩, fun h6 => (by rw [h3] at h6; cases h6)⟩⟩)

end Go.Proofs.Ytchlamfdofpolaa
