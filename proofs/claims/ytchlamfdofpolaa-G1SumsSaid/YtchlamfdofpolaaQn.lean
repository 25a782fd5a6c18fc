/- Package g1: sums of many points. -/
import Derived.Test.YtchlamfdofpolaaEG
import Derived.Test.YtchlamfdofpolaaQe
set_option linter.unusedSimpArgs false
set_option linter.unusedVariables false
namespace Go.Proofs.Ytchlamfdofpolaa
open Go.RowKit

/-! the table of a spot -/
def tabF1 (pl : Sp1 → Sp1 → Sp1) (s : Sp1) : Nat → Sp1
  | 0 => zeroSp
  | i + 1 => pl (tabF1 pl s i) s
def tabV1 (pl : Sp1 → Sp1 → Sp1) (s : Sp1) : Tab .sp1 := ⟨sixteen (tabF1 pl s), rfl⟩
theorem tab1_run (pl : Sp1 → Sp1 → Sp1) (s : Sp1) : plainRun (En [(56, K2 ks1.arg ks1.arg ks1.rs.res pl)]) (kRow (Tab .sp1)).rs 300 Try.f79 [.one (ks1.av s)] = .leaf (some (tabV1 pl s)) := by kernel_rfl
theorem tableG1_ok : CallOk Try.prog 79 (K1 ks1.arg (kRow (Tab .sp1)).rs.res (tabV1 plusG1)) :=
  P1 (E := En [(56, K2 ks1.arg ks1.arg ks1.rs.res plusG1)]) (En_ok (.cons plusG1_ok .nil)) Try.func79 (bodied Try.func79 (by kernel_rfl) (by kernel_rfl)) 300 ks1 (kRow (Tab .sp1)).rs (tabV1 plusG1) (fun s => tab1_run plusG1 s) (fun s => Tree.sat_leaf rfl)


/-! the sum -/
noncomputable abbrev sum1C : List Code := flat (scopeOf Try.f35)
noncomputable abbrev sum1B (k : Nat) : Code := loopAt Try.f35 k
def sum1K (lf : Pg1 → Sp1) (tb : Sp1 → Tab .sp1) (tw : Sp1 → Sp1) (pl : Sp1 → Sp1 → Sp1) (ly : Sp1 → Pg1) : Table := [(57, K1 kg1.arg ks1.rs.res lf), (79, K1 ks1.arg (kRow (Tab .sp1)).rs.res tb), (80, K1 ks1.arg ks1.rs.res tw), (56, K2 ks1.arg ks1.arg ks1.rs.res pl), (55, K1 ks1.arg kg1.rs.res ly)]
def zerosG1 : List Cell := zeros 12 ++ [.ff]
theorem sum1_front (T : Table) (ps : List Pg1) (ks : List Fr) : stageT (En T) 100 ((flat (codeOf Try.f35)).take 1) (startSt Try.f35 [rwV .g1 0 ps, rwV .fr 1 ks] [rwHE .g1 ps, rwHE .fr ks]) [0, 1, 4] [0, 1, 2] =
    .leaf (mkSt 67 [(0, rwV .g1 0 ps), (1, rwV .fr 1 ks), (4, ptrV 2)] [rwHE .g1 ps, rwHE .fr ks, own 30 zerosG1]) := by kernel_rfl
theorem sum1_start (lf : Pg1 → Sp1) (tb : Sp1 → Tab .sp1) (tw : Sp1 → Sp1) (pl : Sp1 → Sp1 → Sp1) (ly : Sp1 → Pg1) (ps : List Pg1) (ks : List Fr) : stageG (En (sum1K lf tb tw pl ly)) 300 (sum1C.take 3) (mkSt 67 [(0, rwV .g1 0 ps), (1, rwV .fr 1 ks), (4, ptrV 2)] [rwHE .g1 ps, rwHE .fr ks, own 30 zerosG1]) [0, 1, 4, 5, 6, 19, 20, 21] [0, 1, 2] [(0, .as), (1, .as), (4, .as), (5, .int), (6, .nilE 3 288), (19, .slc), (20, .int), (21, .int)] [.as, .as, .as] [(91, .rowsM .sp1 15)] =
  (.vc (0 + ps.length * 13 ≤ (rowsC RK.g1 ps).length ∧ 0 < 13)
    (.vc (0 + ks.length * 4 ≤ (rowsC RK.fr ks).length ∧ 0 < 4)
      (.vc ((0 ≤ if (↑ks.length : Int) < (↑ps.length : Int) then (↑ks.length : Int) else (↑ps.length : Int)) ∧ 0 ≤ (if (↑ks.length : Int) < (↑ps.length : Int) then (↑ks.length : Int) else (↑ps.length : Int)).toNat ∧ (if (↑ks.length : Int) < (↑ps.length : Int) then (↑ks.length : Int) else (↑ps.length : Int)).toNat ≤ ps.length ∧ 0 + ps.length * 13 ≤ (rowsC RK.g1 ps).length ∧ 0 < 13 ∧ (0 = 0 ∨ 0 < (if (↑ks.length : Int) < (↑ps.length : Int) then (↑ks.length : Int) else (↑ps.length : Int)).toNat) ∧ 0 = 0 ∧ 13 = 13)
        (.vc (0 + ((if (↑ks.length : Int) < (↑ps.length : Int) then (↑ks.length : Int) else (↑ps.length : Int)).toNat - 0) * 13 ≤ (rowsC RK.g1 ps).length ∧ 0 < 13)
          (.leaf (mkSt 67 [(0, .one (.c (.slc 0 0 (ps.length) 13 (.of 0) false))), (1, .one (.c (.slc 1 0 (ks.length) 4 (.of 0) false))), (4, .one (.c (.ptr 2 0))), (5, .one (.c (.int .i64 (if (↑ks.length : Int) < (↑ps.length : Int) then (↑ks.length : Int) else (↑ps.length : Int))))), (6, .one (.c (.slc 3 0 0 288 (.of 0) false))), (19, .one (.c (.slc 0 0 ((if (↑ks.length : Int) < (↑ps.length : Int) then (↑ks.length : Int) else (↑ps.length : Int)).toNat - 0) 13 (.of 0) false))), (20, .one (.c (.int .i64 ((↑((if (↑ks.length : Int) < (↑ps.length : Int) then (↑ks.length : Int) else (↑ps.length : Int)).toNat - 0) : Int))))), (21, .one (.c (.int .i64 0)))] [.live ⟨false, 0, 13, (.rows .g1 (ps : List Pg1)), false⟩, .live ⟨false, 0, 4, (.rows .fr (ks : List Fr)), false⟩, .live ⟨true, 30, 0, (.row [(.lit .u64 0), (.lit .u64 0), (.lit .u64 0), (.lit .u64 0), (.lit .u64 0), (.lit .u64 0), (.lit .u64 0), (.lit .u64 0), (.lit .u64 0), (.lit .u64 0), (.lit .u64 0), (.lit .u64 0), .ff]), false⟩, .live ⟨true, 91, 288, (.rows .sp1 ([] : List Sp1)), false⟩])))))) := by kernel_rfl
def ownTab1 (l : List Sp1) : HE := .live ⟨true, 91, 288, .rows .sp1 l, false⟩
def sum1S1 (ps : List Pg1) (ks : List Fr) (n z : Int) (c : Nat) (tl : List Sp1) : St := mkSt 67 [(0, rwV .g1 0 ps), (1, rwV .fr 1 ks), (4, ptrV 2), (5, vI n), (6, .one (.c (.slc 3 0 c 288 (.of 0) false))), (19, .one (.c (.slc 0 0 n.toNat 13 (.of 0) false))), (20, vI n), (21, vI z)] [rwHE .g1 ps, rwHE .fr ks, own 30 zerosG1, ownTab1 tl]
theorem sum1_round1 (lf : Pg1 → Sp1) (tb : Sp1 → Tab .sp1) (tw : Sp1 → Sp1) (pl : Sp1 → Sp1 → Sp1) (ly : Sp1 → Pg1) (ps : List Pg1) (ks : List Fr) (n z : Int) (c : Nat) (tl : List Sp1) : roundP (En (sum1K lf tb tw pl ly)) 300 (sum1B 0) (sum1S1 ps ks n z c tl) (following [0, 1, 4, 5, 6, 19, 20, 21] [0, 1, 2] [6]) =
  (.br (decide (z < n))
    (.vc ((0 ≤ z ∧ z < (↑n.toNat : Int)) ∧ 0 + n.toNat * 13 ≤ (rowsC RK.g1 ps).length ∧ 0 < 13 ∧ 0 = 0)
      (.vc (0 + z.toNat < ps.length)
        (.vc ((0 + c * 288 ≤ (rowsC RK.sp1 tl).length ∧ 0 = 0) ∧ c + 1 ≤ 9223372036854775807 ∧ (c + 1) * 2304 ≤ 140737488355328)
          (.leaf ((.normal, mkSt 67 [(0, .one (.c (.slc 0 0 (ps.length) 13 (.of 0) false))), (1, .one (.c (.slc 1 0 (ks.length) 4 (.of 0) false))), (4, .one (.c (.ptr 2 0))), (5, .one (.c (.int .i64 (n)))), (6, .one (.c (.slc 3 0 (c + 1) 288 (.of 0) false))), (19, .one (.c (.slc 0 0 (n.toNat) 13 (.of 0) false))), (20, .one (.c (.int .i64 (n)))), (21, .one (.c (.int .i64 (IntKind.i64.wrap (z + 1)))))] [.live ⟨false, 0, 13, (.rows .g1 (ps : List Pg1)), false⟩, .live ⟨false, 0, 4, (.rows .fr (ks : List Fr)), false⟩, .live ⟨true, 30, 0, (.row [(.lit .u64 0), (.lit .u64 0), (.lit .u64 0), (.lit .u64 0), (.lit .u64 0), (.lit .u64 0), (.lit .u64 0), (.lit .u64 0), (.lit .u64 0), (.lit .u64 0), (.lit .u64 0), (.lit .u64 0), .ff]), false⟩, .live ⟨true, 91, 288, (.rows .sp1 (List.take (mulNn c (288 / 18)) (List.drop 0 tl) ++ [(tb (lf (ps.getD (0 + z.toNat) pg10))).xs.getD 0 { x := fp0, y := fp0, z := fp0 }, (tb (lf (ps.getD (0 + z.toNat) pg10))).xs.getD 1 { x := fp0, y := fp0, z := fp0 }, (tb (lf (ps.getD (0 + z.toNat) pg10))).xs.getD 2 { x := fp0, y := fp0, z := fp0 }, (tb (lf (ps.getD (0 + z.toNat) pg10))).xs.getD 3 { x := fp0, y := fp0, z := fp0 }, (tb (lf (ps.getD (0 + z.toNat) pg10))).xs.getD 4 { x := fp0, y := fp0, z := fp0 }, (tb (lf (ps.getD (0 + z.toNat) pg10))).xs.getD 5 { x := fp0, y := fp0, z := fp0 }, (tb (lf (ps.getD (0 + z.toNat) pg10))).xs.getD 6 { x := fp0, y := fp0, z := fp0 }, (tb (lf (ps.getD (0 + z.toNat) pg10))).xs.getD 7 { x := fp0, y := fp0, z := fp0 }, (tb (lf (ps.getD (0 + z.toNat) pg10))).xs.getD 8 { x := fp0, y := fp0, z := fp0 }, (tb (lf (ps.getD (0 + z.toNat) pg10))).xs.getD 9 { x := fp0, y := fp0, z := fp0 }, (tb (lf (ps.getD (0 + z.toNat) pg10))).xs.getD 10 { x := fp0, y := fp0, z := fp0 }, (tb (lf (ps.getD (0 + z.toNat) pg10))).xs.getD 11 { x := fp0, y := fp0, z := fp0 }, (tb (lf (ps.getD (0 + z.toNat) pg10))).xs.getD 12 { x := fp0, y := fp0, z := fp0 }, (tb (lf (ps.getD (0 + z.toNat) pg10))).xs.getD 13 { x := fp0, y := fp0, z := fp0 }, (tb (lf (ps.getD (0 + z.toNat) pg10))).xs.getD 14 { x := fp0, y := fp0, z := fp0 }, (tb (lf (ps.getD (0 + z.toNat) pg10))).xs.getD 15 { x := fp0, y := fp0, z := fp0 }] : List Sp1)), false⟩]))))))
    (.leaf ((.exit 0, mkSt 67 [(0, .one (.c (.slc 0 0 (ps.length) 13 (.of 0) false))), (1, .one (.c (.slc 1 0 (ks.length) 4 (.of 0) false))), (4, .one (.c (.ptr 2 0))), (5, .one (.c (.int .i64 (n)))), (6, .one (.c (.slc 3 0 (c) 288 (.of 0) false))), (19, .one (.c (.slc 0 0 (n.toNat) 13 (.of 0) false))), (20, .one (.c (.int .i64 (n)))), (21, .one (.c (.int .i64 (z))))] [.live ⟨false, 0, 13, (.rows .g1 (ps : List Pg1)), false⟩, .live ⟨false, 0, 4, (.rows .fr (ks : List Fr)), false⟩, .live ⟨true, 30, 0, (.row [(.lit .u64 0), (.lit .u64 0), (.lit .u64 0), (.lit .u64 0), (.lit .u64 0), (.lit .u64 0), (.lit .u64 0), (.lit .u64 0), (.lit .u64 0), (.lit .u64 0), (.lit .u64 0), (.lit .u64 0), .ff]), false⟩, .live ⟨true, 91, 288, (.rows .sp1 (tl : List Sp1)), false⟩])))) := by kernel_rfl
theorem sum1_mid (lf : Pg1 → Sp1) (tb : Sp1 → Tab .sp1) (tw : Sp1 → Sp1) (pl : Sp1 → Sp1 → Sp1) (ly : Sp1 → Pg1) (ps : List Pg1) (ks : List Fr) (n z : Int) (c : Nat) (tl : List Sp1) : stageG (En (sum1K lf tb tw pl ly)) 300 ((sum1C.drop 4).take 3) (sum1S1 ps ks n z c tl) [1, 4, 5, 6, 9, 10] [1, 2, 3, 4] [(1, .as), (4, .as), (5, .as), (6, .as), (9, .as), (10, .int)] [.as, .as, .as, .one .sp1] [] =
  (.leaf (mkSt 67 [(1, .one (.c (.slc 0 0 (ks.length) 4 (.of 0) false))), (4, .one (.c (.ptr 1 0))), (5, .one (.c (.int .i64 (n)))), (6, .one (.c (.slc 2 0 (c) 288 (.of 0) false))), (9, .one (.c (.ptr 3 0))), (10, .one (.c (.int .i64 256)))] [.live ⟨false, 0, 4, (.rows .fr (ks : List Fr)), false⟩, .live ⟨true, 30, 0, (.row [(.lit .u64 0), (.lit .u64 0), (.lit .u64 0), (.lit .u64 0), (.lit .u64 0), (.lit .u64 0), (.lit .u64 0), (.lit .u64 0), (.lit .u64 0), (.lit .u64 0), (.lit .u64 0), (.lit .u64 0), .ff]), false⟩, .live ⟨true, 91, 288, (.rows .sp1 (tl : List Sp1)), false⟩, .live ⟨true, 72, 0, (.row (Row.cs ({ x := { l0 := UInt64.ofNat 0, l1 := UInt64.ofNat 0, l2 := UInt64.ofNat 0, l3 := UInt64.ofNat 0, l4 := UInt64.ofNat 0, l5 := UInt64.ofNat 0 }, y := { l0 := UInt64.ofNat 0, l1 := UInt64.ofNat 0, l2 := UInt64.ofNat 0, l3 := UInt64.ofNat 0, l4 := UInt64.ofNat 0, l5 := UInt64.ofNat 0 }, z := { l0 := UInt64.ofNat 0, l1 := UInt64.ofNat 0, l2 := UInt64.ofNat 0, l3 := UInt64.ofNat 0, l4 := UInt64.ofNat 0, l5 := UInt64.ofNat 0 } } : Sp1))), false⟩])) := by kernel_rfl
def sum1S2 (ks : List Fr) (n z : Int) (c : Nat) (tl : List Sp1) (o : Sp1) : St := mkSt 67 [(1, rwV .fr 0 ks), (4, ptrV 1), (5, vI n), (6, .one (.c (.slc 2 0 c 288 (.of 0) false))), (9, ptrV 3), (10, vI z)] [rwHE .fr ks, own 30 zerosG1, ownTab1 tl, own 72 (Row.cs o)]
theorem sum1_top (lf : Pg1 → Sp1) (tb : Sp1 → Tab .sp1) (tw : Sp1 → Sp1) (pl : Sp1 → Sp1 → Sp1) (ly : Sp1 → Pg1) (ks : List Fr) (n z : Int) (c : Nat) (tl : List Sp1) (o : Sp1) : segT (En (sum1K lf tb tw pl ly)) kg1.rs.out 300 Try.f35 ((sum1C.drop 7).take 6) (sum1S2 ks n z c tl o) [1, 4, 5, 6, 9, 10, 43, 44] [0, 1, 2, 3] [(1, .as), (4, .as), (5, .as), (6, .as), (9, .as), (10, .as), (43, .as), (44, .int)] [.as, .as, .as, .as] [] =
  (.br (decide (IntKind.i64.wrap (z - 4) < 0))
    (.leaf (.inr (some ((ly o, .t)))))
    (.leaf (.inl (mkSt 67 [(1, .one (.c (.slc 0 0 (ks.length) 4 (.of 0) false))), (4, .one (.c (.ptr 1 0))), (5, .one (.c (.int .i64 (n)))), (6, .one (.c (.slc 2 0 (c) 288 (.of 0) false))), (9, .one (.c (.ptr 3 0))), (10, .one (.c (.int .i64 (IntKind.i64.wrap (z - 4))))), (43, .one (.c (.int .i64 (n)))), (44, .one (.c (.int .i64 0)))] [.live ⟨false, 0, 4, (.rows .fr (ks : List Fr)), false⟩, .live ⟨true, 30, 0, (.row [(.lit .u64 0), (.lit .u64 0), (.lit .u64 0), (.lit .u64 0), (.lit .u64 0), (.lit .u64 0), (.lit .u64 0), (.lit .u64 0), (.lit .u64 0), (.lit .u64 0), (.lit .u64 0), (.lit .u64 0), .ff]), false⟩, .live ⟨true, 91, 288, (.rows .sp1 (tl : List Sp1)), false⟩, .live ⟨true, 72, 0, (.row (Row.cs (tw (tw (tw (tw o))) : Sp1))), false⟩])))) := by kernel_rfl
def sum1S3 (ks : List Fr) (n z j : Int) (c : Nat) (tl : List Sp1) (o : Sp1) : St := mkSt 67 [(1, rwV .fr 0 ks), (4, ptrV 1), (5, vI n), (6, .one (.c (.slc 2 0 c 288 (.of 0) false))), (9, ptrV 3), (10, vI z), (43, vI n), (44, vI j)] [rwHE .fr ks, own 30 zerosG1, ownTab1 tl, own 72 (Row.cs o)]
/-- Four bits of a scalar, from a place on. -/
def digU (k : Fr) (z : Int) : UInt64 := shrU (k.limb (IntKind.i64.wrap (z.tdiv 64)).toNat) ((UInt64.ofNat (z.tmod 64 % 18446744073709551616).toNat).toNat : Int) % UInt64.ofNat 16
def fr0 : Fr := ⟨0, 0, 0, 0⟩
def sp0 : Sp1 := ⟨fp0, fp0, fp0⟩
theorem sum1_round3 (lf : Pg1 → Sp1) (tb : Sp1 → Tab .sp1) (tw : Sp1 → Sp1) (pl : Sp1 → Sp1 → Sp1) (ly : Sp1 → Pg1) (ks : List Fr) (n z j : Int) (c : Nat) (tl : List Sp1) (o : Sp1) : roundT (En (sum1K lf tb tw pl ly)) 300 (sum1B 2) (sum1S3 ks n z j c tl o) (same [1, 4, 5, 6, 9, 10, 43, 44] [0, 1, 2, 3]) =
    .br (decide (j < n))
      (.vc ((0 ≤ j ∧ j < (ks.length : Int)) ∧ 0 + ks.length * 4 ≤ (rowsC RK.fr ks).length ∧ 0 < 4 ∧ 0 = 0)
        (.vc ((0 ≤ IntKind.i64.wrap (z.tdiv 64) ∧ IntKind.i64.wrap (z.tdiv 64) < 4) ∧ (0 + j.toNat) * 4 < (rowsC RK.fr ks).length)
          (.vc (0 + j.toNat < ks.length ∧ (IntKind.i64.wrap (z.tdiv 64)).toNat < 4)
            (.vc ((0 ≤ j ∧ j < (c : Int)) ∧ 0 + c * 288 ≤ (rowsC RK.sp1 tl).length ∧ 0 < 288 ∧ 0 = 0)
              (.vc ((0 ≤ ((digU (ks.getD (0 + j.toNat) fr0) z).toNat : Int) ∧ ((digU (ks.getD (0 + j.toNat) fr0) z).toNat : Int) < 16) ∧ (0 + j.toNat) * 288 < (rowsC RK.sp1 tl).length)
                (.vc ((0 + j.toNat) * 16 + ((digU (ks.getD (0 + j.toNat) fr0) z).toNat : Int).toNat < tl.length)
                  (.leaf (.normal, sum1S3 ks n z (IntKind.i64.wrap (j + 1)) c tl (pl o (tl.getD ((0 + j.toNat) * 16 + ((digU (ks.getD (0 + j.toNat) fr0) z).toNat : Int).toNat) sp0))))))))))
      (.leaf (.exit 4, sum1S3 ks n z j c tl o)) := by kernel_rfl


theorem sum1_back (T : Table) (ks : List Fr) (n z j : Int) (c : Nat) (tl : List Sp1) (o : Sp1) : iterT (En T) kg1.rs.out 100 Try.f35 [.goto 0] (sum1S3 ks n z j c tl o) [1, 4, 5, 6, 9, 10] [0, 1, 2, 3] = .leaf (.inl (.goto 0, sum1S2 ks n z c tl o)) := by kernel_rfl

/-! what it computes -/
theorem digU_lt (k : Fr) (z : Int) : (digU k z).toNat < 16 := by
  unfold digU
  rw [UInt64.toNat_mod]
  exact Nat.mod_lt _ (by decide)
def sumIn1 (pl : Sp1 → Sp1 → Sp1) (tl : List Sp1) (ks : List Fr) (z : Int) : Nat → Sp1 → Sp1
  | 0, o => o
  | j + 1, o => pl (sumIn1 pl tl ks z j o) (tl.getD (j * 16 + (digU (ks.getD j fr0) z).toNat) sp0)
def sumOut1 (tw : Sp1 → Sp1) (pl : Sp1 → Sp1 → Sp1) (tl : List Sp1) (ks : List Fr) (n : Nat) : Nat → Sp1 → Sp1
  | 0, o => o
  | m + 1, o => sumOut1 tw pl tl ks n m (sumIn1 pl tl ks ((4 * m : Nat) : Int) n (tw (tw (tw (tw o)))))
def tabs1 (f : Pg1 → Tab .sp1) (ps : List Pg1) : List Sp1 := ps.flatMap fun p => (f p).xs
theorem tabs1_len (f : Pg1 → Tab .sp1) : ∀ ps : List Pg1, (tabs1 f ps).length = ps.length * 16
  | [] => rfl
  | p :: ps => by
    have := tabs1_len f ps
    have h16 : (f p).xs.length = 16 := (f p).len
    simp only [tabs1, List.flatMap_cons, List.length_append, List.length_cons] at this ⊢
    rw [this, h16]
    omega
theorem tabs1_snoc (f : Pg1 → Tab .sp1) (ps : List Pg1) (p : Pg1) : tabs1 f (ps ++ [p]) = tabs1 f ps ++ sixteen (fun i => (f p).xs.getD i sp0) := by
  have := Tab.cells (f p)
  simp only [tabs1, List.flatMap_append, List.flatMap_cons, List.flatMap_nil, List.append_nil]
  exact congrArg _ this.symm
abbrev sumN1 (ps : List Pg1) (ks : List Fr) : Nat := min ks.length ps.length
def tab1V (p : Pg1) : Tab .sp1 := tabV1 plusG1 (liftG1 p)
def sumG1 (ps : List Pg1) (ks : List Fr) : Pg1 := laysG1 (sumOut1 twiceG1 plusG1 (tabs1 tab1V (ps.take (sumN1 ps ks))) ks (sumN1 ps ks) 64 zeroSp)
theorem minmax_min (a b : Nat) : (if (a : Int) < (b : Int) then (a : Int) else (b : Int)) = ((min a b : Nat) : Int) := by
  split <;> omega
theorem wholeTab (c : Nat) (tl : List Sp1) (h : tl.length = c * 16) : List.take (mulNn c 16) (List.drop 0 tl) = tl := by
  rw [mulNn_eq, List.drop_zero, ← h, List.take_length]

theorem sum1K_ok : EnvOk (En (sum1K liftG1 (tabV1 plusG1) twiceG1 plusG1 laysG1)) := En_ok (.cons liftG1_ok (.cons tableG1_ok (.cons twiceG1_ok (.cons plusG1_ok (.cons laysG1_ok .nil)))))

theorem sum1_ahead (ps : List Pg1) (ks : List Fr) (hp : ps.length < topLen) (hk : ks.length < topLen) (hs : sumN1 ps ks < 4294967296) :
    DoesL (En (sum1K liftG1 (tabV1 plusG1) twiceG1 plusG1 laysG1)) (sum1C.take 7) (mkSt 67 [(0, rwV .g1 0 ps), (1, rwV .fr 1 ks), (4, ptrV 2)] [rwHE .g1 ps, rwHE .fr ks, own 30 zerosG1])
      fun r => match r.1 with | .normal => r.2 = sum1S2 ks (sumN1 ps ks : Nat) 256 (sumN1 ps ks) (tabs1 tab1V (ps.take (sumN1 ps ks))) zeroSp | _ => False := by
  have hE := sum1K_ok
  have hN : sumN1 ps ks ≤ ps.length := Nat.min_le_right _ _
  refine DoesL.stageG hE 300 3 _ _ _ _ _ ((congrArg (fun c => stageG _ 300 c _ _ _ _ _ _) (List.take_take (i := 3) (j := 7) (l := sum1C))).trans (sum1_start liftG1 (tabV1 plusG1) twiceG1 plusG1 laysG1 ps ks)) ?_
  rw [minmax_min]
  refine ⟨⟨by rw [rowsC_g1]; omega, by decide⟩, fun _ => ⟨⟨by rw [rowsC_fr]; omega, by decide⟩, fun _ => ⟨⟨by omega, by omega, by rw [Int.toNat_natCast]; exact hN, by rw [rowsC_g1]; omega, by decide, .inl rfl, rfl, rfl⟩, fun _ => ⟨⟨by rw [rowsC_g1, Int.toNat_natCast, Nat.sub_zero]; have := Nat.mul_le_mul_right 13 hN; omega, by decide⟩, ?_⟩⟩⟩⟩
  intro _
  show DoesL _ _ (sum1S1 ps ks ((sumN1 ps ks : Nat) : Int) ((0 : Nat) : Int) 0 (tabs1 tab1V (ps.take 0))) _
  refine DoesL.blockLoop (B := sum1B 0) (rest := (sum1C.take 7).drop 4) (id := 0) (by kernel_rfl) (fun j : { j : Nat // j ≤ sumN1 ps ks } => sum1S1 ps ks ((sumN1 ps ks : Nat) : Int) (j.1 : Int) j.1 (tabs1 tab1V (ps.take j.1))) (fun j => sumN1 ps ks - j.1) ⟨0, Nat.zero_le _⟩ fun j => ?_
  obtain ⟨j, hj⟩ := j
  show Does _ _ (sum1S1 ps ks ((sumN1 ps ks : Nat) : Int) (j : Int) j (tabs1 tab1V (ps.take j))) _
  have hlen : (tabs1 tab1V (ps.take j)).length = j * 16 := by rw [tabs1_len, List.length_take, Nat.min_eq_left (by omega)]
  refine Does.roundP hE 300 _ (sum1_round1 liftG1 (tabV1 plusG1) twiceG1 plusG1 laysG1 ps ks ((sumN1 ps ks : Nat) : Int) (j : Int) j (tabs1 tab1V (ps.take j))) ⟨fun h => ?_, fun h => ?_⟩
  · simp only [decide_eq_true_eq] at h
    have hj1 : j < sumN1 ps ks := by omega
    refine ⟨⟨⟨by omega, by rw [Int.toNat_natCast]; omega⟩, by rw [rowsC_g1, Int.toNat_natCast]; have := Nat.mul_le_mul_right 13 hN; omega, by decide, rfl⟩, fun _ => ⟨by rw [Int.toNat_natCast]; omega, fun _ => ⟨⟨⟨by rw [rowsC_sp1, hlen]; omega, rfl⟩, by omega, by omega⟩, fun _ => ?_⟩⟩⟩
    refine ⟨⟨j + 1, hj1⟩, by show sumN1 ps ks - (j + 1) < sumN1 ps ks - j; omega, ?_⟩
    rw [wrap_succ j (by omega), Int.toNat_natCast, Nat.zero_add, wholeTab j _ hlen]
    have e1 : ps.take (j + 1) = ps.take j ++ [ps.getD j pg10] := by
      rw [List.take_add_one, List.getD]
      rw [List.getElem?_eq_getElem (by omega)]
      rfl
    have e2 : tabs1 tab1V (ps.take (j + 1)) = tabs1 tab1V (ps.take j) ++ sixteen (fun i => (tab1V (ps.getD j pg10)).xs.getD i sp0) := by rw [e1, tabs1_snoc]
    show _ = sum1S1 ps ks ((sumN1 ps ks : Nat) : Int) ((j + 1 : Nat) : Int) (j + 1) (tabs1 tab1V (ps.take (j + 1)))
    rw [e2]
    rfl
  · simp only [decide_eq_false_iff_not] at h
    obtain rfl : j = sumN1 ps ks := by omega
    refine ⟨rfl, ?_⟩
    refine DoesL.stageG hE 300 3 _ _ _ _ _ ((congrArg (fun c => stageG _ 300 c _ _ _ _ _ _) (show List.take 3 (List.drop 4 (List.take 7 sum1C)) = (sum1C.drop 4).take 3 by kernel_rfl)).trans (sum1_mid liftG1 (tabV1 plusG1) twiceG1 plusG1 laysG1 ps ks ((sumN1 ps ks : Nat) : Int) ((sumN1 ps ks : Nat) : Int) (sumN1 ps ks) (tabs1 tab1V (ps.take (sumN1 ps ks))))) ?_
    exact ⟨_, Wk.refl _, rfl⟩


/-- Where the loop is: how many windows are left, the sum so far. -/
abbrev Sum1Ok (ps : List Pg1) (ks : List Fr) : Type := { q : Nat × Sp1 // q.1 ≤ 64 ∧ laysG1 (sumOut1 twiceG1 plusG1 (tabs1 tab1V (ps.take (sumN1 ps ks))) ks (sumN1 ps ks) q.1 q.2) = sumG1 ps ks }
def sum1I (ps : List Pg1) (ks : List Fr) (q : Sum1Ok ps ks) : St := sum1S2 ks (sumN1 ps ks : Nat) ((4 * q.1.1 : Nat) : Int) (sumN1 ps ks) (tabs1 tab1V (ps.take (sumN1 ps ks))) q.1.2
def sum1_i0 (ps : List Pg1) (ks : List Fr) : Sum1Ok ps ks := ⟨(64, zeroSp), Nat.le_refl _, by unfold sumG1; rfl⟩
theorem sum1_i0_eq (ps : List Pg1) (ks : List Fr) : sum1I ps ks (sum1_i0 ps ks) = sum1S2 ks (sumN1 ps ks : Nat) 256 (sumN1 ps ks) (tabs1 tab1V (ps.take (sumN1 ps ks))) zeroSp := by
  unfold sum1I
  have e : ((4 * (sum1_i0 ps ks).1.1 : Nat) : Int) = 256 := by
    show ((4 * 64 : Nat) : Int) = 256
    decide
  rw [e]
  rfl
theorem sum1_outer (ps : List Pg1) (ks : List Fr) (hp : ps.length < topLen) (hk : ks.length < topLen) (hf : ps.length < 4294967296) (m : Nat) (hm : m ≤ 64) (o : Sp1) (tl : List Sp1) (htl : tabs1 tab1V (ps.take (sumN1 ps ks)) = tl)
    (hq : laysG1 (sumOut1 twiceG1 plusG1 tl ks (sumN1 ps ks) m o) = sumG1 ps ks) :
    DoesL (En (sum1K liftG1 (tabV1 plusG1) twiceG1 plusG1 laysG1)) (sum1C.drop 7) (sum1S2 ks (sumN1 ps ks : Nat) ((4 * m : Nat) : Int) (sumN1 ps ks) tl o)
      (Within (En (sum1K liftG1 (tabV1 plusG1) twiceG1 plusG1 laysG1)) Try.f35 kg1.rs.out (sumG1 ps ks) (Wn fun r => match r.1 with | .goto l' => l' = 0 ∧ ∃ j : Sum1Ok ps ks, j.1.1 < m ∧ r.2 = sum1I ps ks j | _ => False)) := by
    have hE := sum1K_ok
    have hN : sumN1 ps ks ≤ ps.length := Nat.min_le_right _ _
    have hK : sumN1 ps ks ≤ ks.length := Nat.min_le_left _ _
    have hlen : tl.length = sumN1 ps ks * 16 := by rw [← htl, tabs1_len, List.length_take, Nat.min_eq_left hN]
    refine DoesL.segW hE 300 6 _ _ _ _ _ (sum1_top liftG1 (tabV1 plusG1) twiceG1 plusG1 laysG1 ks ((sumN1 ps ks : Nat) : Int) ((4 * m : Nat) : Int) (sumN1 ps ks) tl o) ?_
    rw [IntWalk.i64_in (((4 * m : Nat) : Int) - 4) (by omega)]
    refine ⟨fun h => ?_, fun h => ?_⟩
    · simp only [decide_eq_true_eq] at h
      obtain rfl : m = 0 := by omega
      exact ⟨.t, by rw [← hq]; rfl, trivial⟩
    · simp only [decide_eq_false_iff_not] at h
      obtain ⟨m', rfl⟩ : ∃ m', m = m' + 1 := ⟨m - 1, by omega⟩
      rw [show ((4 * (m' + 1) : Nat) : Int) - 4 = ((4 * m' : Nat) : Int) by omega]
      simp only [sumOut1] at hq
      obtain ⟨o4, ho4⟩ : ∃ o4, twiceG1 (twiceG1 (twiceG1 (twiceG1 o))) = o4 := ⟨_, rfl⟩
      rw [ho4] at hq ⊢
      show DoesL _ _ (sum1S3 ks (sumN1 ps ks : Nat) ((4 * m' : Nat) : Int) ((0 : Nat) : Int) (sumN1 ps ks) tl (sumIn1 plusG1 tl ks ((4 * m' : Nat) : Int) 0 o4)) _
      refine DoesL.blockLoop (B := sum1B 2) (rest := [.goto 0]) (id := 4) (by kernel_rfl) (fun j : { j : Nat // j ≤ sumN1 ps ks } => sum1S3 ks (sumN1 ps ks : Nat) ((4 * m' : Nat) : Int) (j.1 : Int) (sumN1 ps ks) tl (sumIn1 plusG1 tl ks ((4 * m' : Nat) : Int) j.1 o4)) (fun j => sumN1 ps ks - j.1) ⟨0, Nat.zero_le _⟩ fun j => ?_
      obtain ⟨j, hj⟩ := j
      show Does _ _ (sum1S3 ks (sumN1 ps ks : Nat) ((4 * m' : Nat) : Int) (j : Int) (sumN1 ps ks) tl (sumIn1 plusG1 tl ks ((4 * m' : Nat) : Int) j o4)) _
      refine Does.round hE 300 _ (sum1_round3 liftG1 (tabV1 plusG1) twiceG1 plusG1 laysG1 ks ((sumN1 ps ks : Nat) : Int) ((4 * m' : Nat) : Int) (j : Int) (sumN1 ps ks) tl (sumIn1 plusG1 tl ks ((4 * m' : Nat) : Int) j o4)) ⟨fun h => ?_, fun h => ?_⟩
      · simp only [decide_eq_true_eq] at h
        have hj1 : j < sumN1 ps ks := by omega
        have hw : IntKind.i64.wrap (((4 * m' : Nat) : Int).tdiv 64) = ((4 * m' / 64 : Nat) : Int) := by
          rw [show (((4 * m' : Nat) : Int).tdiv 64) = ((4 * m' / 64 : Nat) : Int) from rfl]
          exact IntWalk.i64_in _ (by omega)
        have hd := digU_lt (ks.getD j fr0) ((4 * m' : Nat) : Int)
        rw [show (0 + ((j : Nat) : Int).toNat) = j by omega, Int.toNat_natCast]
        refine ⟨⟨⟨by omega, by omega⟩, by rw [rowsC_fr]; omega, by decide, rfl⟩, fun _ => ⟨⟨⟨by rw [hw]; omega, by rw [hw]; omega⟩, by rw [rowsC_fr]; omega⟩, fun _ => ⟨⟨by omega, by rw [hw, Int.toNat_natCast]; omega⟩, fun _ => ⟨⟨⟨by omega, by omega⟩, by rw [rowsC_sp1, hlen]; omega, by decide, rfl⟩, fun _ => ?_⟩⟩⟩⟩
        refine ⟨⟨⟨by omega, ?_⟩, by rw [rowsC_sp1, hlen]; omega⟩, fun _ => ⟨?_, fun _ => ?_⟩⟩
        · omega
        · rw [hlen]
          omega
        · refine ⟨⟨j + 1, hj1⟩, by show sumN1 ps ks - (j + 1) < sumN1 ps ks - j; omega, ?_⟩
          rw [wrap_succ j (by omega)]
          rw [sumIn1]
      · simp only [decide_eq_false_iff_not] at h
        obtain rfl : j = sumN1 ps ks := by omega
        refine ⟨rfl, ?_⟩
        refine DoesL.mono (DoesL.iter (o := kg1.rs.out) (fn := Try.f35) (x := sumG1 ps ks) (R := fun r => match r.1 with | .goto l' => l' = 0 ∧ ∃ j : Sum1Ok ps ks, j.1.1 < m' + 1 ∧ r.2 = sum1I ps ks j | _ => False) hE 100 _ _ (sum1_back _ ks _ _ _ _ _ _) ?_) fun r hr => hr
        refine ⟨rfl, ⟨(m', sumIn1 plusG1 tl ks ((4 * m' : Nat) : Int) (sumN1 ps ks) o4), by show m' ≤ 64; omega, by rw [htl]; exact hq⟩, Nat.lt_succ_self _, ?_⟩
        exact congrArg (fun t => sum1S2 ks (sumN1 ps ks : Nat) ((4 * m' : Nat) : Int) (sumN1 ps ks) t (sumIn1 plusG1 tl ks ((4 * m' : Nat) : Int) (sumN1 ps ks) o4)) htl.symm

abbrev few (xs : List Pg1) : Prop := xs.length < 4294967296
theorem sumG1_ok : CallOk Try.prog 35 (K2 ((argRw .g1).such few) (argRw .fr) kg1.rs.res sumG1) :=
  Go.Proofs.Ytchlamfdofpolaa.G2 (E := En (sum1K liftG1 (tabV1 plusG1) twiceG1 plusG1 laysG1)) Try.func35 (c := codeOf Try.f35) (by kernel_rfl) (bodied Try.func35 (by kernel_rfl) (by kernel_rfl)) ((inpRw .g1).such few) (inpRw .fr) kg1.rs.out sumG1 fun ps ks hp hk => by
    have hE := sum1K_ok
    obtain ⟨hp, hf⟩ := hp
    have hp : ps.length < topLen := hp
    have hk : ks.length < topLen := hk
    have hf : ps.length < 4294967296 := hf
    have hN : sumN1 ps ks ≤ ps.length := Nat.min_le_right _ _
    have hK : sumN1 ps ks ≤ ks.length := Nat.min_le_left _ _
    refine DoesL.stageE hE 100 1 [0, 1, 4] [0, 1, 2] (sum1_front _ ps ks) ?_
    refine DoesL.scopeFnG (body := scopeOf Try.f35) (rest := restOf Try.f35) (tail := []) (l := 0) hE (by kernel_rfl) (by kernel_rfl) 7 (by kernel_rfl) (sum1I ps ks) (fun q => q.1.1)
      (sum1_i0 ps ks) (by rw [sum1_i0_eq]; exact sum1_ahead ps ks hp hk (by omega)) fun q => ?_
    obtain ⟨⟨m, o⟩, hm, hq⟩ := q
    exact sum1_outer ps ks hp hk hf m hm o _ rfl hq


end Go.Proofs.Ytchlamfdofpolaa
