/- G2Small: what its function computes. -/
import Derived.Test.YtchlamfdofpolaaQj
set_option linter.unusedSimpArgs false
set_option linter.unusedVariables false
namespace Go.Proofs.Ytchlamfdofpolaa
open Go.RowKit

abbrev kg2 : Kd Pg2 := kRow Pg2
noncomputable abbrev sm2C : List Code := flat (codeOf Try.f13)
noncomputable abbrev sm2B : Code := loopAt Try.f13 0
noncomputable abbrev sm2E (b : Bool) (oF' : UInt64 → Pg2 × Bool) (mF : Fr → Bool) (aF : Pg2 → Pg2 → Pg2) (g : Pg2) (uF : Pg2 → Fr → Pg2) (nF : Fr → Fr) (eF : Pg2 → Pg2 → Bool) (gF : Pg2 → Pg2) : Env := En [(36, K0 kBool.rs.res b), (48, K1 kU64.arg (kg2.rs2 kBool).res oF'), (16, Krb mF), (38, K2 kg2.arg kg2.arg kg2.rs.res aF), (49, K0 kg2.rs.res g), (42, K2 kg2.arg (kRow Fr).arg kg2.rs.res uF), (34, Kr1 nF), (44, K2 kg2.arg kg2.arg kBool.rs.res eF), (40, K1 kg2.arg kg2.rs.res gF)]
def sm2N : List Cell := List.replicate 24 (.lit .u64 0) ++ [.tt]
def sm2St (k : UInt8) (a : Fr) (p : Pg2) (cs : List Cell) (z : Int) : St := mkSt 66 [(1, .one (kU8.av k)), (5, ptrV 0), (7, ptrV 1), (9, ptrV 2), (10, vI z)] [own 24 (Row.cs a), own 54 (Row.cs p), own 54 cs]
theorem sm2_start (b : Bool) (oF' : UInt64 → Pg2 × Bool) (mF : Fr → Bool) (aF : Pg2 → Pg2 → Pg2) (g : Pg2) (uF : Pg2 → Fr → Pg2) (nF : Fr → Fr) (eF : Pg2 → Pg2 → Bool) (gF : Pg2 → Pg2) (n : UInt64) (k : UInt8) (a : Fr) : segT (sm2E b oF' mF aF g uF nF eF gF) oB 300 Try.f13 (sm2C.take 8) (startSt Try.f13 [vU n, .one (kU8.av k), v4 a] []) [1, 5, 7, 9, 10] [0, 1, 2] [(1, .as), (5, .as), (7, .as), (9, .as), (10, .int)] [.as, .as, .as] [] =
  (.br (!(b))
    (.leaf (.inr (some ((false, .t)))))
    (.br (!((oF' n).snd))
      (.leaf (.inr (some ((true, .t)))))
      (.br (!(mF a))
        (.leaf (.inr (some ((true, .t)))))
        (.leaf (.inl (mkSt 66 [(1, .one (.c (.u8 (k)))), (5, .one (.c (.ptr 0 0))), (7, .one (.c (.ptr 1 0))), (9, .one (.c (.ptr 2 0))), (10, .one (.c (.int .i64 0)))] [.live ⟨true, 24, 0, (.row (Row.cs (a : Fr))), false⟩, .live ⟨true, 54, 0, (.row (Row.cs ((oF' n).fst : Pg2))), false⟩, .live ⟨true, 54, 0, (.row [(.lit .u64 0), (.lit .u64 0), (.lit .u64 0), (.lit .u64 0), (.lit .u64 0), (.lit .u64 0), (.lit .u64 0), (.lit .u64 0), (.lit .u64 0), (.lit .u64 0), (.lit .u64 0), (.lit .u64 0), (.lit .u64 0), (.lit .u64 0), (.lit .u64 0), (.lit .u64 0), (.lit .u64 0), (.lit .u64 0), (.lit .u64 0), (.lit .u64 0), (.lit .u64 0), (.lit .u64 0), (.lit .u64 0), (.lit .u64 0), .tt]), false⟩])))))) := by kernel_rfl
theorem sm2_round (b : Bool) (oF' : UInt64 → Pg2 × Bool) (mF : Fr → Bool) (aF : Pg2 → Pg2 → Pg2) (g : Pg2) (uF : Pg2 → Fr → Pg2) (nF : Fr → Fr) (eF : Pg2 → Pg2 → Bool) (gF : Pg2 → Pg2) (k : UInt8) (a : Fr) (p s : Pg2) (z : Int) : roundT (sm2E b oF' mF aF g uF nF eF gF) 100 sm2B (sm2St k a p (Row.cs s) z) (same [1, 5, 7, 9, 10] [0, 1, 2]) =
  (.br (decide (z < IntKind.i64.wrap ((↑k.toNat : Int).tmod 20)))
    (.leaf ((.normal, mkSt 66 [(1, .one (.c (.u8 (k)))), (5, .one (.c (.ptr 0 0))), (7, .one (.c (.ptr 1 0))), (9, .one (.c (.ptr 2 0))), (10, .one (.c (.int .i64 (IntKind.i64.wrap (z + 1)))))] [.live ⟨true, 24, 0, (.row (Row.cs (a : Fr))), false⟩, .live ⟨true, 54, 0, (.row (Row.cs (p : Pg2))), false⟩, .live ⟨true, 54, 0, (.row (Row.cs (aF s p : Pg2))), false⟩])))
    (.leaf ((.exit 0, mkSt 66 [(1, .one (.c (.u8 (k)))), (5, .one (.c (.ptr 0 0))), (7, .one (.c (.ptr 1 0))), (9, .one (.c (.ptr 2 0))), (10, .one (.c (.int .i64 (z))))] [.live ⟨true, 24, 0, (.row (Row.cs (a : Fr))), false⟩, .live ⟨true, 54, 0, (.row (Row.cs (p : Pg2))), false⟩, .live ⟨true, 54, 0, (.row (Row.cs (s : Pg2))), false⟩])))) := by kernel_rfl
theorem sm2_first (b : Bool) (oF' : UInt64 → Pg2 × Bool) (mF : Fr → Bool) (aF : Pg2 → Pg2 → Pg2) (g : Pg2) (uF : Pg2 → Fr → Pg2) (nF : Fr → Fr) (eF : Pg2 → Pg2 → Bool) (gF : Pg2 → Pg2) (k : UInt8) (a : Fr) (p : Pg2) (z : Int) : roundT (sm2E b oF' mF aF g uF nF eF gF) 100 sm2B (sm2St k a p sm2N z) (same [1, 5, 7, 9, 10] [0, 1, 2]) =
  (.br (decide (z < IntKind.i64.wrap ((↑k.toNat : Int).tmod 20)))
    (.leaf ((.normal, mkSt 66 [(1, .one (.c (.u8 (k)))), (5, .one (.c (.ptr 0 0))), (7, .one (.c (.ptr 1 0))), (9, .one (.c (.ptr 2 0))), (10, .one (.c (.int .i64 (IntKind.i64.wrap (z + 1)))))] [.live ⟨true, 24, 0, (.row (Row.cs (a : Fr))), false⟩, .live ⟨true, 54, 0, (.row (Row.cs (p : Pg2))), false⟩, .live ⟨true, 54, 0, (.row (Row.cs (aF { x := { c0 := { l0 := UInt64.ofNat 0, l1 := UInt64.ofNat 0, l2 := UInt64.ofNat 0, l3 := UInt64.ofNat 0, l4 := UInt64.ofNat 0, l5 := UInt64.ofNat 0 }, c1 := { l0 := UInt64.ofNat 0, l1 := UInt64.ofNat 0, l2 := UInt64.ofNat 0, l3 := UInt64.ofNat 0, l4 := UInt64.ofNat 0, l5 := UInt64.ofNat 0 } }, y := { c0 := { l0 := UInt64.ofNat 0, l1 := UInt64.ofNat 0, l2 := UInt64.ofNat 0, l3 := UInt64.ofNat 0, l4 := UInt64.ofNat 0, l5 := UInt64.ofNat 0 }, c1 := { l0 := UInt64.ofNat 0, l1 := UInt64.ofNat 0, l2 := UInt64.ofNat 0, l3 := UInt64.ofNat 0, l4 := UInt64.ofNat 0, l5 := UInt64.ofNat 0 } }, inf := true } p : Pg2))), false⟩])))
    (.leaf ((.exit 0, mkSt 66 [(1, .one (.c (.u8 (k)))), (5, .one (.c (.ptr 0 0))), (7, .one (.c (.ptr 1 0))), (9, .one (.c (.ptr 2 0))), (10, .one (.c (.int .i64 (z))))] [.live ⟨true, 24, 0, (.row (Row.cs (a : Fr))), false⟩, .live ⟨true, 54, 0, (.row (Row.cs (p : Pg2))), false⟩, .live ⟨true, 54, 0, (.row [(.lit .u64 0), (.lit .u64 0), (.lit .u64 0), (.lit .u64 0), (.lit .u64 0), (.lit .u64 0), (.lit .u64 0), (.lit .u64 0), (.lit .u64 0), (.lit .u64 0), (.lit .u64 0), (.lit .u64 0), (.lit .u64 0), (.lit .u64 0), (.lit .u64 0), (.lit .u64 0), (.lit .u64 0), (.lit .u64 0), (.lit .u64 0), (.lit .u64 0), (.lit .u64 0), (.lit .u64 0), (.lit .u64 0), (.lit .u64 0), .tt]), false⟩])))) := by kernel_rfl
theorem sm2_end (b : Bool) (oF' : UInt64 → Pg2 × Bool) (mF : Fr → Bool) (aF : Pg2 → Pg2 → Pg2) (g : Pg2) (uF : Pg2 → Fr → Pg2) (nF : Fr → Fr) (eF : Pg2 → Pg2 → Bool) (gF : Pg2 → Pg2) (k : UInt8) (a : Fr) (p s : Pg2) (z : Int) : endT (sm2E b oF' mF aF g uF nF eF gF) oB 300 Try.f13 (sm2C.drop 9) (sm2St k a p (Row.cs s) z) =
  (.br (eF (uF p { l0 := UInt64.ofNat ((↑k.toNat : Int).tmod 20 % 18446744073709551616).toNat, l1 := UInt64.ofNat 0, l2 := UInt64.ofNat 0, l3 := UInt64.ofNat 0 }) s)
    (.br (eF (uF (uF g a) (nF { l0 := UInt64.ofNat 1, l1 := UInt64.ofNat 0, l2 := UInt64.ofNat 0, l3 := UInt64.ofNat 0 })) (gF (uF g a)))
      (.leaf (some ((eF (gF (gF p)) p, .t))))
      (.leaf (some ((false, .t)))))
    (.leaf (some ((false, .t))))) := by kernel_rfl
theorem sm2_endN (b : Bool) (oF' : UInt64 → Pg2 × Bool) (mF : Fr → Bool) (aF : Pg2 → Pg2 → Pg2) (g : Pg2) (uF : Pg2 → Fr → Pg2) (nF : Fr → Fr) (eF : Pg2 → Pg2 → Bool) (gF : Pg2 → Pg2) (k : UInt8) (a : Fr) (p : Pg2) (z : Int) : endT (sm2E b oF' mF aF g uF nF eF gF) oB 300 Try.f13 (sm2C.drop 9) (sm2St k a p sm2N z) =
  (.br (eF (uF p { l0 := UInt64.ofNat ((↑k.toNat : Int).tmod 20 % 18446744073709551616).toNat, l1 := UInt64.ofNat 0, l2 := UInt64.ofNat 0, l3 := UInt64.ofNat 0 }) { x := { c0 := { l0 := UInt64.ofNat 0, l1 := UInt64.ofNat 0, l2 := UInt64.ofNat 0, l3 := UInt64.ofNat 0, l4 := UInt64.ofNat 0, l5 := UInt64.ofNat 0 }, c1 := { l0 := UInt64.ofNat 0, l1 := UInt64.ofNat 0, l2 := UInt64.ofNat 0, l3 := UInt64.ofNat 0, l4 := UInt64.ofNat 0, l5 := UInt64.ofNat 0 } }, y := { c0 := { l0 := UInt64.ofNat 0, l1 := UInt64.ofNat 0, l2 := UInt64.ofNat 0, l3 := UInt64.ofNat 0, l4 := UInt64.ofNat 0, l5 := UInt64.ofNat 0 }, c1 := { l0 := UInt64.ofNat 0, l1 := UInt64.ofNat 0, l2 := UInt64.ofNat 0, l3 := UInt64.ofNat 0, l4 := UInt64.ofNat 0, l5 := UInt64.ofNat 0 } }, inf := true })
    (.br (eF (uF (uF g a) (nF { l0 := UInt64.ofNat 1, l1 := UInt64.ofNat 0, l2 := UInt64.ofNat 0, l3 := UInt64.ofNat 0 })) (gF (uF g a)))
      (.leaf (some ((eF (gF (gF p)) p, .t))))
      (.leaf (some ((false, .t)))))
    (.leaf (some ((false, .t))))) := by kernel_rfl

/-- The sum by steps. -/
def smallG2 (aF : Pg2 → Pg2 → Pg2) (p : Pg2) : Nat → Pg2
  | 0 => infG2
  | i + 1 => aF (smallG2 aF p i) p
def sm2Cs (aF : Pg2 → Pg2 → Pg2) (p : Pg2) : Nat → List Cell
  | 0 => sm2N
  | i + 1 => Row.cs (smallG2 aF p (i + 1))
theorem sm2_roundI (b : Bool) (oF' : UInt64 → Pg2 × Bool) (mF : Fr → Bool) (aF : Pg2 → Pg2 → Pg2) (g : Pg2) (uF : Pg2 → Fr → Pg2) (nF : Fr → Fr) (eF : Pg2 → Pg2 → Bool) (gF : Pg2 → Pg2) (k : UInt8) (a : Fr) (p : Pg2) (z : Int) (i : Nat) : roundT (sm2E b oF' mF aF g uF nF eF gF) 100 sm2B (sm2St k a p (sm2Cs aF p i) z) (same [1, 5, 7, 9, 10] [0, 1, 2]) =
    .br (decide (z < IntKind.i64.wrap ((k.toNat : Int).tmod 20))) (.leaf (.normal, sm2St k a p (sm2Cs aF p (i + 1)) (IntKind.i64.wrap (z + 1)))) (.leaf (.exit 0, sm2St k a p (sm2Cs aF p i) z)) := by
  cases i with
  | zero => exact sm2_first b oF' mF aF g uF nF eF gF k a p z
  | succ i => exact sm2_round b oF' mF aF g uF nF eF gF k a p (smallG2 aF p (i + 1)) z
theorem sm2_endI (b : Bool) (oF' : UInt64 → Pg2 × Bool) (mF : Fr → Bool) (aF : Pg2 → Pg2 → Pg2) (g : Pg2) (uF : Pg2 → Fr → Pg2) (nF : Fr → Fr) (eF : Pg2 → Pg2 → Bool) (gF : Pg2 → Pg2) (k : UInt8) (a : Fr) (p : Pg2) (z : Int) (i : Nat) : endT (sm2E b oF' mF aF g uF nF eF gF) oB 300 Try.f13 (sm2C.drop 9) (sm2St k a p (sm2Cs aF p i) z) =
    .br (eF (uF p (smallFr k)) (smallG2 aF p i)) (.br (eF (uF (uF g a) (nF oneFr)) (gF (uF g a))) (.leaf (some (eF (gF (gF p)) p, .t))) (.leaf (some (false, .t)))) (.leaf (some (false, .t))) := by
  cases i with
  | zero => exact sm2_endN b oF' mF aF g uF nF eF gF k a p z
  | succ i => exact sm2_end b oF' mF aF g uF nF eF gF k a p (smallG2 aF p (i + 1)) z
theorem sm2_gives {oF' : UInt64 → Pg2 × Bool} {mF : Fr → Bool} {aF : Pg2 → Pg2 → Pg2} {g : Pg2} {uF : Pg2 → Fr → Pg2} {nF : Fr → Fr} {eF : Pg2 → Pg2 → Bool} {gF : Pg2 → Pg2} (hE : EnvOk (sm2E true oF' mF aF g uF nF eF gF)) (n : UInt64) (k : UInt8) (a : Fr) (w : World)
    (h : (oF' n).2 = true → eF (uF (oF' n).1 (smallFr k)) (smallG2 aF (oF' n).1 (k.toNat % 20)) = true ∧ eF (uF (uF g a) (nF oneFr)) (gF (uF g a)) = true ∧ eF (gF (gF (oF' n).1)) (oF' n).1 = true) :
    Gives Try.prog 13 ((KdL.cons kU64 (KdL.cons kU8 (KdL.cons (kRow Fr) KdL.nil))).vals (n, k, a, ())).toArray w kBool.rs.res true :=
  gives_ends' (E := sm2E true oF' mF aF g uF nF eF gF) Try.func13 (c := codeOf Try.f13) (by kernel_rfl) (KdL.cons kU64 (KdL.cons kU8 (KdL.cons (kRow Fr) KdL.nil))) (n, k, a, ()) oB w (by
    refine DoesL.seg hE 300 8 _ _ _ _ _ (sm2_start true oF' mF aF g uF nF eF gF n k a) ⟨fun h1 => (by cases h1), fun _ => ⟨fun _ => ⟨.t, rfl, trivial⟩, fun h2 => ⟨fun _ => ⟨.t, rfl, trivial⟩, fun _ => ?_⟩⟩⟩
    have h2 : (oF' n).2 = true := by simpa using h2
    obtain ⟨h3, h4, h5⟩ := h h2
    clear h h2
    generalize (oF' n).1 = p at *
    refine (?_ : DoesL _ _ (sm2St k a p (sm2Cs aF p 0) ((0 : Nat) : Int)) _)
    refine DoesL.blockLoop (B := sm2B) (rest := sm2C.drop 9) (id := 0) (by kernel_rfl) (fun i : { i : Nat // i ≤ k.toNat % 20 } => sm2St k a p (sm2Cs aF p i.1) (i.1 : Int)) (fun i => k.toNat % 20 - i.1) ⟨0, Nat.zero_le _⟩ fun i => ?_
    obtain ⟨i, hi⟩ := i
    show Does _ _ (sm2St k a p (sm2Cs aF p i) (i : Int)) _
    refine Does.round hE 100 _ (sm2_roundI true oF' mF aF g uF nF eF gF k a p (i : Int) i) ?_
    rw [wrap_k]
    refine ⟨fun h1 => ?_, fun h1 => ?_⟩
    · simp only [decide_eq_true_eq] at h1
      have h1 : i < k.toNat % 20 := by omega
      rw [wrap_succ i (by omega)]
      exact ⟨⟨i + 1, h1⟩, by show k.toNat % 20 - (i + 1) < k.toNat % 20 - i; omega, rfl⟩
    · simp only [decide_eq_false_iff_not] at h1
      obtain rfl : i = k.toNat % 20 := by omega
      exact ⟨rfl, DoesL.ends hE 300 (sm2_endI true oF' mF aF g uF nF eF gF k a p _ _) ⟨fun _ => ⟨fun _ => reads_t h5, fun h6 => (by rw [h4] at h6; cases h6)⟩, fun h6 => (by rw [h3] at h6; cases h6)⟩⟩)

end Go.Proofs.Ytchlamfdofpolaa
