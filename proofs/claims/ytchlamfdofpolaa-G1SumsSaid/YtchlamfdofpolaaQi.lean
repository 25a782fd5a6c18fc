/- What the functions of the statements of layers 8 and 9 compute: sums, groups. -/
import Derived.Test.YtchlamfdofpolaaQh
set_option linter.unusedSimpArgs false
set_option linter.unusedVariables false
namespace Go.Proofs.Ytchlamfdofpolaa
open Go.RowKit

def point8_G (f0 : UInt64 → Pg1 × Bool) (f1 : Pg1 → Fr → Pg1) (f2 : Pg1) (k : Fr) (n : UInt64) (out : Bool) : Pg1 := (match (out) with | true => (match ((f0 n).snd) with | true => ((f0 n).fst) | false => (f1 f2 k)) | false => (f1 f2 k))
def point8_T (f0 : UInt64 → Pg1 × Bool) (f1 : Pg1 → Fr → Pg1) (f2 : Pg1) (k : Fr) (n : UInt64) (out : Bool) : Tree (Option (Pg1)) :=
  (.br (out)
    (.br ((f0 n).snd)
      (.leaf (some ((f0 n).fst)))
      (.leaf (some (f1 f2 k))))
    (.leaf (some (f1 f2 k))))
theorem point8_run (f0 : UInt64 → Pg1 × Bool) (f1 : Pg1 → Fr → Pg1) (f2 : Pg1) (k : Fr) (n : UInt64) (out : Bool) : plainRun (En [(28, K1 kU64.arg ((kRow Pg1).rs2 kBool).res f0), (23, K2 (kRow Pg1).arg (kRow Fr).arg (kRow Pg1).rs.res f1), (26, K0 (kRow Pg1).rs.res f2)]) (kRow Pg1).rs 300 Try.f17 [.one ((kRow Fr).av k), .one (kU64.av n), .one (kBool.av out)] = point8_T f0 f1 f2 k n out := by kernel_rfl
theorem point8_sat (f0 : UInt64 → Pg1 × Bool) (f1 : Pg1 → Fr → Pg1) (f2 : Pg1) (k : Fr) (n : UInt64) (out : Bool) : (point8_T f0 f1 f2 k n out).sat fun q => q = some (point8_G f0 f1 f2 k n out) := ⟨fun h0 => ⟨fun h1 => (show some _ = some _ from congrArg some (by unfold point8_G; rw [h0, h1])), fun h1 => (show some _ = some _ from congrArg some (by unfold point8_G; rw [h0, h1]))⟩, fun h0 => (show some _ = some _ from congrArg some (by unfold point8_G; rw [h0]))⟩
def point8 (k : Fr) (n : UInt64) (out : Bool) : Pg1 := point8_G out8 times1R gen1R k n out
theorem point8_gives (k : Fr) (n : UInt64) (out : Bool) (w : World) : Gives Try.prog 17 ((KdL.cons (kRow Fr) (KdL.cons kU64 (KdL.cons kBool KdL.nil))).vals (k, n, out, ())).toArray w (kRow Pg1).rs.res (point8 k n out) :=
  plain_gives (En_ok (.cons out8_ok (.cons times1R_ok (.cons gen1R_ok .nil)))) Try.func17 300 (KdL.cons (kRow Fr) (KdL.cons kU64 (KdL.cons kBool KdL.nil))) (kRow Pg1).rs (k, n, out, ()) (point8_run out8 times1R gen1R k n out) (point8_sat out8 times1R gen1R k n out) w
theorem point8_ok : CallOk Try.prog 17 (K3 (kRow Fr).arg kU64.arg kBool.arg (kRow Pg1).rs.res point8) :=
  P3 (En_ok (.cons out8_ok (.cons times1R_ok (.cons gen1R_ok .nil)))) Try.func17 (bodied Try.func17 (by kernel_rfl) (by kernel_rfl)) 300 (kRow Fr) kU64 kBool (kRow Pg1).rs point8 (point8_run out8 times1R gen1R) (point8_sat out8 times1R gen1R)
def point9_G (f0 : UInt64 → Pg2 × Bool) (f1 : Pg2 → Fr → Pg2) (f2 : Pg2) (k : Fr) (n : UInt64) (out : Bool) : Pg2 := (match (out) with | true => (match ((f0 n).snd) with | true => ((f0 n).fst) | false => (f1 f2 k)) | false => (f1 f2 k))
def point9_T (f0 : UInt64 → Pg2 × Bool) (f1 : Pg2 → Fr → Pg2) (f2 : Pg2) (k : Fr) (n : UInt64) (out : Bool) : Tree (Option (Pg2)) :=
  (.br (out)
    (.br ((f0 n).snd)
      (.leaf (some ((f0 n).fst)))
      (.leaf (some (f1 f2 k))))
    (.leaf (some (f1 f2 k))))
theorem point9_run (f0 : UInt64 → Pg2 × Bool) (f1 : Pg2 → Fr → Pg2) (f2 : Pg2) (k : Fr) (n : UInt64) (out : Bool) : plainRun (En [(48, K1 kU64.arg ((kRow Pg2).rs2 kBool).res f0), (43, K2 (kRow Pg2).arg (kRow Fr).arg (kRow Pg2).rs.res f1), (46, K0 (kRow Pg2).rs.res f2)]) (kRow Pg2).rs 300 Try.f37 [.one ((kRow Fr).av k), .one (kU64.av n), .one (kBool.av out)] = point9_T f0 f1 f2 k n out := by kernel_rfl
theorem point9_sat (f0 : UInt64 → Pg2 × Bool) (f1 : Pg2 → Fr → Pg2) (f2 : Pg2) (k : Fr) (n : UInt64) (out : Bool) : (point9_T f0 f1 f2 k n out).sat fun q => q = some (point9_G f0 f1 f2 k n out) := ⟨fun h0 => ⟨fun h1 => (show some _ = some _ from congrArg some (by unfold point9_G; rw [h0, h1])), fun h1 => (show some _ = some _ from congrArg some (by unfold point9_G; rw [h0, h1]))⟩, fun h0 => (show some _ = some _ from congrArg some (by unfold point9_G; rw [h0]))⟩
def point9 (k : Fr) (n : UInt64) (out : Bool) : Pg2 := point9_G out9 times2R gen2R k n out
theorem point9_gives (k : Fr) (n : UInt64) (out : Bool) (w : World) : Gives Try.prog 37 ((KdL.cons (kRow Fr) (KdL.cons kU64 (KdL.cons kBool KdL.nil))).vals (k, n, out, ())).toArray w (kRow Pg2).rs.res (point9 k n out) :=
  plain_gives (En_ok (.cons out9_ok (.cons times2R_ok (.cons gen2R_ok .nil)))) Try.func37 300 (KdL.cons (kRow Fr) (KdL.cons kU64 (KdL.cons kBool KdL.nil))) (kRow Pg2).rs (k, n, out, ()) (point9_run out9 times2R gen2R k n out) (point9_sat out9 times2R gen2R k n out) w
theorem point9_ok : CallOk Try.prog 37 (K3 (kRow Fr).arg kU64.arg kBool.arg (kRow Pg2).rs.res point9) :=
  P3 (En_ok (.cons out9_ok (.cons times2R_ok (.cons gen2R_ok .nil)))) Try.func37 (bodied Try.func37 (by kernel_rfl) (by kernel_rfl)) 300 (kRow Fr) kU64 kBool (kRow Pg2).rs point9 (point9_run out9 times2R gen2R) (point9_sat out9 times2R gen2R)
def g1All_G (f0 : Bool) (f1 : Fr → Bool) (f2 : Fr → UInt64 → Bool → Pg1) (f3 : Pg1 → Pg1 → Pg1) (f4 : Pg1 → Pg1 → Pg1) (f5 : Pg1 → Pg1) (f6 : Pg1 → Pg1) (f7 : Pg1 → Fr → Pg1) (f8 : Pg1 → Fr → Pg1) (f9 : Pg1 → Pg1 → Bool) (f10 : Pg1 → Bool) (a : Fr) (b : Fr) (n : UInt64) (out : Bool) (same : Bool) (k : Fr) : Bool := (match (!(f0)) with | true => ((false)) | false => (match (!(f1 a)) with | true => ((true)) | false => (match (!(f1 b)) with | true => ((true)) | false => (match (!(f1 k)) with | true => ((true)) | false => (match (same) with | true => (match (pg1Eq (f3 (f2 a n out) (f2 a n out)) (f4 (f2 a n out) (f2 a n out))) with | true => (match (pg1Eq (f5 (f2 a n out)) (f6 (f2 a n out))) with | true => (match (pg1Eq (f7 (f2 a n out) k) (f8 (f2 a n out) k)) with | true => (match ((f9 (f2 a n out) (f2 a n out)) == (pg1Eq (f2 a n out) (f2 a n out))) with | true => (match (f9 (f2 a n out) (f2 a n out)) with | true => ((f10 (f2 a n out))) | false => ((false))) | false => ((false))) | false => ((false))) | false => ((false))) | false => ((false))) | false => (match (pg1Eq (f3 (f2 a n out) (f2 b (n / UInt64.ofNat 7) false)) (f4 (f2 a n out) (f2 b (n / UInt64.ofNat 7) false))) with | true => (match (pg1Eq (f5 (f2 a n out)) (f6 (f2 a n out))) with | true => (match (pg1Eq (f7 (f2 a n out) k) (f8 (f2 a n out) k)) with | true => (match ((f9 (f2 a n out) (f2 b (n / UInt64.ofNat 7) false)) == (pg1Eq (f2 a n out) (f2 b (n / UInt64.ofNat 7) false))) with | true => (match (f9 (f2 a n out) (f2 a n out)) with | true => ((f10 (f2 a n out))) | false => ((false))) | false => ((false))) | false => ((false))) | false => ((false))) | false => ((false))))))))
def g1All_T (f0 : Bool) (f1 : Fr → Bool) (f2 : Fr → UInt64 → Bool → Pg1) (f3 : Pg1 → Pg1 → Pg1) (f4 : Pg1 → Pg1 → Pg1) (f5 : Pg1 → Pg1) (f6 : Pg1 → Pg1) (f7 : Pg1 → Fr → Pg1) (f8 : Pg1 → Fr → Pg1) (f9 : Pg1 → Pg1 → Bool) (f10 : Pg1 → Bool) (a : Fr) (b : Fr) (n : UInt64) (out : Bool) (same : Bool) (k : Fr) : Tree (Option (Bool)) :=
  (.br (!(f0))
    (.leaf (some ((false))))
    (.br (!(f1 a))
      (.leaf (some ((true))))
      (.br (!(f1 b))
        (.leaf (some ((true))))
        (.br (!(f1 k))
          (.leaf (some ((true))))
          (.br (same)
            (.br (pg1Eq (f3 (f2 a n out) (f2 a n out)) (f4 (f2 a n out) (f2 a n out)))
              (.br (pg1Eq (f5 (f2 a n out)) (f6 (f2 a n out)))
                (.br (pg1Eq (f7 (f2 a n out) k) (f8 (f2 a n out) k))
                  (.br ((f9 (f2 a n out) (f2 a n out)) == (pg1Eq (f2 a n out) (f2 a n out)))
                    (.br (f9 (f2 a n out) (f2 a n out))
                      (.leaf (some ((f10 (f2 a n out)))))
                      (.leaf (some ((false)))))
                    (.leaf (some ((false)))))
                  (.leaf (some ((false)))))
                (.leaf (some ((false)))))
              (.leaf (some ((false)))))
            (.br (pg1Eq (f3 (f2 a n out) (f2 b (n / UInt64.ofNat 7) false)) (f4 (f2 a n out) (f2 b (n / UInt64.ofNat 7) false)))
              (.br (pg1Eq (f5 (f2 a n out)) (f6 (f2 a n out)))
                (.br (pg1Eq (f7 (f2 a n out) k) (f8 (f2 a n out) k))
                  (.br ((f9 (f2 a n out) (f2 b (n / UInt64.ofNat 7) false)) == (pg1Eq (f2 a n out) (f2 b (n / UInt64.ofNat 7) false)))
                    (.br (f9 (f2 a n out) (f2 a n out))
                      (.leaf (some ((f10 (f2 a n out)))))
                      (.leaf (some ((false)))))
                    (.leaf (some ((false)))))
                  (.leaf (some ((false)))))
                (.leaf (some ((false)))))
              (.leaf (some ((false))))))))))
theorem g1All_run (f0 : Bool) (f1 : Fr → Bool) (f2 : Fr → UInt64 → Bool → Pg1) (f3 : Pg1 → Pg1 → Pg1) (f4 : Pg1 → Pg1 → Pg1) (f5 : Pg1 → Pg1) (f6 : Pg1 → Pg1) (f7 : Pg1 → Fr → Pg1) (f8 : Pg1 → Fr → Pg1) (f9 : Pg1 → Pg1 → Bool) (f10 : Pg1 → Bool) (a : Fr) (b : Fr) (n : UInt64) (out : Bool) (same : Bool) (k : Fr) : plainRun (En [(15, K0 kBool.rs.res f0), (16, Krb f1), (17, K3 (kRow Fr).arg kU64.arg kBool.arg (kRow Pg1).rs.res f2), (18, K2 (kRow Pg1).arg (kRow Pg1).arg (kRow Pg1).rs.res f3), (19, K2 (kRow Pg1).arg (kRow Pg1).arg (kRow Pg1).rs.res f4), (20, K1 (kRow Pg1).arg (kRow Pg1).rs.res f5), (21, K1 (kRow Pg1).arg (kRow Pg1).rs.res f6), (22, K2 (kRow Pg1).arg (kRow Fr).arg (kRow Pg1).rs.res f7), (23, K2 (kRow Pg1).arg (kRow Fr).arg (kRow Pg1).rs.res f8), (24, K2 (kRow Pg1).arg (kRow Pg1).arg kBool.rs.res f9), (25, K1 (kRow Pg1).arg kBool.rs.res f10)]) kBool.rs 300 Try.f3 [.one ((kRow Fr).av a), .one ((kRow Fr).av b), .one (kU64.av n), .one (kBool.av out), .one (kBool.av same), .one ((kRow Fr).av k)] = g1All_T f0 f1 f2 f3 f4 f5 f6 f7 f8 f9 f10 a b n out same k := by kernel_rfl
theorem g1All_sat (f0 : Bool) (f1 : Fr → Bool) (f2 : Fr → UInt64 → Bool → Pg1) (f3 : Pg1 → Pg1 → Pg1) (f4 : Pg1 → Pg1 → Pg1) (f5 : Pg1 → Pg1) (f6 : Pg1 → Pg1) (f7 : Pg1 → Fr → Pg1) (f8 : Pg1 → Fr → Pg1) (f9 : Pg1 → Pg1 → Bool) (f10 : Pg1 → Bool) (a : Fr) (b : Fr) (n : UInt64) (out : Bool) (same : Bool) (k : Fr) : (g1All_T f0 f1 f2 f3 f4 f5 f6 f7 f8 f9 f10 a b n out same k).sat fun q => q = some (g1All_G f0 f1 f2 f3 f4 f5 f6 f7 f8 f9 f10 a b n out same k) := ⟨fun h0 => (show some _ = some _ from congrArg some (by unfold g1All_G; rw [h0])), fun h0 => ⟨fun h1 => (show some _ = some _ from congrArg some (by unfold g1All_G; rw [h0, h1])), fun h1 => ⟨fun h2 => (show some _ = some _ from congrArg some (by unfold g1All_G; rw [h0, h1, h2])), fun h2 => ⟨fun h3 => (show some _ = some _ from congrArg some (by unfold g1All_G; rw [h0, h1, h2, h3])), fun h3 => ⟨fun h4 => ⟨fun h5 => ⟨fun h6 => ⟨fun h7 => ⟨fun h8 => ⟨fun h9 => (show some _ = some _ from congrArg some (by unfold g1All_G; rw [h0, h1, h2, h3, h4, h5, h6, h7, h8, h9])), fun h9 => (show some _ = some _ from congrArg some (by unfold g1All_G; rw [h0, h1, h2, h3, h4, h5, h6, h7, h8, h9]))⟩, fun h8 => (show some _ = some _ from congrArg some (by unfold g1All_G; rw [h0, h1, h2, h3, h4, h5, h6, h7, h8]))⟩, fun h7 => (show some _ = some _ from congrArg some (by unfold g1All_G; rw [h0, h1, h2, h3, h4, h5, h6, h7]))⟩, fun h6 => (show some _ = some _ from congrArg some (by unfold g1All_G; rw [h0, h1, h2, h3, h4, h5, h6]))⟩, fun h5 => (show some _ = some _ from congrArg some (by unfold g1All_G; rw [h0, h1, h2, h3, h4, h5]))⟩, fun h4 => ⟨fun h5 => ⟨fun h6 => ⟨fun h7 => ⟨fun h8 => ⟨fun h9 => (show some _ = some _ from congrArg some (by unfold g1All_G; rw [h0, h1, h2, h3, h4, h5, h6, h7, h8, h9])), fun h9 => (show some _ = some _ from congrArg some (by unfold g1All_G; rw [h0, h1, h2, h3, h4, h5, h6, h7, h8, h9]))⟩, fun h8 => (show some _ = some _ from congrArg some (by unfold g1All_G; rw [h0, h1, h2, h3, h4, h5, h6, h7, h8]))⟩, fun h7 => (show some _ = some _ from congrArg some (by unfold g1All_G; rw [h0, h1, h2, h3, h4, h5, h6, h7]))⟩, fun h6 => (show some _ = some _ from congrArg some (by unfold g1All_G; rw [h0, h1, h2, h3, h4, h5, h6]))⟩, fun h5 => (show some _ = some _ from congrArg some (by unfold g1All_G; rw [h0, h1, h2, h3, h4, h5]))⟩⟩⟩⟩⟩⟩
def g1All (a : Fr) (b : Fr) (n : UInt64) (out : Bool) (same : Bool) (k : Fr) : Bool := g1All_G begun8 mayRF point8 addG1 plus1R negG1 minus1R mulG1 times1R eqG1 onG1 a b n out same k
theorem g1All_gives (a : Fr) (b : Fr) (n : UInt64) (out : Bool) (same : Bool) (k : Fr) (w : World) : Gives Try.prog 3 ((KdL.cons (kRow Fr) (KdL.cons (kRow Fr) (KdL.cons kU64 (KdL.cons kBool (KdL.cons kBool (KdL.cons (kRow Fr) KdL.nil)))))).vals (a, b, n, out, same, k, ())).toArray w kBool.rs.res (g1All a b n out same k) :=
  plain_gives (En_ok (.cons begun8_ok (.cons mayR_ok (.cons point8_ok (.cons addG1_ok (.cons plus1R_ok (.cons negG1_ok (.cons minus1R_ok (.cons mulG1_ok (.cons times1R_ok (.cons eqG1_ok (.cons onG1_ok .nil)))))))))))) Try.func3 300 (KdL.cons (kRow Fr) (KdL.cons (kRow Fr) (KdL.cons kU64 (KdL.cons kBool (KdL.cons kBool (KdL.cons (kRow Fr) KdL.nil)))))) kBool.rs (a, b, n, out, same, k, ()) (g1All_run begun8 mayRF point8 addG1 plus1R negG1 minus1R mulG1 times1R eqG1 onG1 a b n out same k) (g1All_sat begun8 mayRF point8 addG1 plus1R negG1 minus1R mulG1 times1R eqG1 onG1 a b n out same k) w
theorem g1All_ok : CallOk Try.prog 3 (KN (KdL.cons (kRow Fr) (KdL.cons (kRow Fr) (KdL.cons kU64 (KdL.cons kBool (KdL.cons kBool (KdL.cons (kRow Fr) KdL.nil)))))) kBool.rs.res (fun x => g1All x.1 x.2.1 x.2.2.1 x.2.2.2.1 x.2.2.2.2.1 x.2.2.2.2.2.1)) :=
  PN (En_ok (.cons begun8_ok (.cons mayR_ok (.cons point8_ok (.cons addG1_ok (.cons plus1R_ok (.cons negG1_ok (.cons minus1R_ok (.cons mulG1_ok (.cons times1R_ok (.cons eqG1_ok (.cons onG1_ok .nil)))))))))))) Try.func3 (bodied Try.func3 (by kernel_rfl) (by kernel_rfl)) 300 (KdL.cons (kRow Fr) (KdL.cons (kRow Fr) (KdL.cons kU64 (KdL.cons kBool (KdL.cons kBool (KdL.cons (kRow Fr) KdL.nil)))))) kBool.rs (fun x => g1All x.1 x.2.1 x.2.2.1 x.2.2.2.1 x.2.2.2.2.1 x.2.2.2.2.2.1) (T := fun x => g1All_T begun8 mayRF point8 addG1 plus1R negG1 minus1R mulG1 times1R eqG1 onG1 x.1 x.2.1 x.2.2.1 x.2.2.2.1 x.2.2.2.2.1 x.2.2.2.2.2.1) (fun x => g1All_run begun8 mayRF point8 addG1 plus1R negG1 minus1R mulG1 times1R eqG1 onG1 x.1 x.2.1 x.2.2.1 x.2.2.2.1 x.2.2.2.2.1 x.2.2.2.2.2.1) (fun x => g1All_sat begun8 mayRF point8 addG1 plus1R negG1 minus1R mulG1 times1R eqG1 onG1 x.1 x.2.1 x.2.2.1 x.2.2.2.1 x.2.2.2.2.1 x.2.2.2.2.2.1)
def g2All_G (f0 : Bool) (f1 : Fr → Bool) (f2 : Fr → UInt64 → Bool → Pg2) (f3 : Pg2 → Pg2 → Pg2) (f4 : Pg2 → Pg2 → Pg2) (f5 : Pg2 → Pg2) (f6 : Pg2 → Pg2) (f7 : Pg2 → Fr → Pg2) (f8 : Pg2 → Fr → Pg2) (f9 : Pg2 → Pg2 → Bool) (f10 : Pg2 → Bool) (a : Fr) (b : Fr) (n : UInt64) (out : Bool) (same : Bool) (k : Fr) : Bool := (match (!(f0)) with | true => ((false)) | false => (match (!(f1 a)) with | true => ((true)) | false => (match (!(f1 b)) with | true => ((true)) | false => (match (!(f1 k)) with | true => ((true)) | false => (match (same) with | true => (match (pg2Eq (f3 (f2 a n out) (f2 a n out)) (f4 (f2 a n out) (f2 a n out))) with | true => (match (pg2Eq (f5 (f2 a n out)) (f6 (f2 a n out))) with | true => (match (pg2Eq (f7 (f2 a n out) k) (f8 (f2 a n out) k)) with | true => (match ((f9 (f2 a n out) (f2 a n out)) == (pg2Eq (f2 a n out) (f2 a n out))) with | true => (match (f9 (f2 a n out) (f2 a n out)) with | true => ((f10 (f2 a n out))) | false => ((false))) | false => ((false))) | false => ((false))) | false => ((false))) | false => ((false))) | false => (match (pg2Eq (f3 (f2 a n out) (f2 b (n / UInt64.ofNat 7) false)) (f4 (f2 a n out) (f2 b (n / UInt64.ofNat 7) false))) with | true => (match (pg2Eq (f5 (f2 a n out)) (f6 (f2 a n out))) with | true => (match (pg2Eq (f7 (f2 a n out) k) (f8 (f2 a n out) k)) with | true => (match ((f9 (f2 a n out) (f2 b (n / UInt64.ofNat 7) false)) == (pg2Eq (f2 a n out) (f2 b (n / UInt64.ofNat 7) false))) with | true => (match (f9 (f2 a n out) (f2 a n out)) with | true => ((f10 (f2 a n out))) | false => ((false))) | false => ((false))) | false => ((false))) | false => ((false))) | false => ((false))))))))
def g2All_T (f0 : Bool) (f1 : Fr → Bool) (f2 : Fr → UInt64 → Bool → Pg2) (f3 : Pg2 → Pg2 → Pg2) (f4 : Pg2 → Pg2 → Pg2) (f5 : Pg2 → Pg2) (f6 : Pg2 → Pg2) (f7 : Pg2 → Fr → Pg2) (f8 : Pg2 → Fr → Pg2) (f9 : Pg2 → Pg2 → Bool) (f10 : Pg2 → Bool) (a : Fr) (b : Fr) (n : UInt64) (out : Bool) (same : Bool) (k : Fr) : Tree (Option (Bool)) :=
  (.br (!(f0))
    (.leaf (some ((false))))
    (.br (!(f1 a))
      (.leaf (some ((true))))
      (.br (!(f1 b))
        (.leaf (some ((true))))
        (.br (!(f1 k))
          (.leaf (some ((true))))
          (.br (same)
            (.br (pg2Eq (f3 (f2 a n out) (f2 a n out)) (f4 (f2 a n out) (f2 a n out)))
              (.br (pg2Eq (f5 (f2 a n out)) (f6 (f2 a n out)))
                (.br (pg2Eq (f7 (f2 a n out) k) (f8 (f2 a n out) k))
                  (.br ((f9 (f2 a n out) (f2 a n out)) == (pg2Eq (f2 a n out) (f2 a n out)))
                    (.br (f9 (f2 a n out) (f2 a n out))
                      (.leaf (some ((f10 (f2 a n out)))))
                      (.leaf (some ((false)))))
                    (.leaf (some ((false)))))
                  (.leaf (some ((false)))))
                (.leaf (some ((false)))))
              (.leaf (some ((false)))))
            (.br (pg2Eq (f3 (f2 a n out) (f2 b (n / UInt64.ofNat 7) false)) (f4 (f2 a n out) (f2 b (n / UInt64.ofNat 7) false)))
              (.br (pg2Eq (f5 (f2 a n out)) (f6 (f2 a n out)))
                (.br (pg2Eq (f7 (f2 a n out) k) (f8 (f2 a n out) k))
                  (.br ((f9 (f2 a n out) (f2 b (n / UInt64.ofNat 7) false)) == (pg2Eq (f2 a n out) (f2 b (n / UInt64.ofNat 7) false)))
                    (.br (f9 (f2 a n out) (f2 a n out))
                      (.leaf (some ((f10 (f2 a n out)))))
                      (.leaf (some ((false)))))
                    (.leaf (some ((false)))))
                  (.leaf (some ((false)))))
                (.leaf (some ((false)))))
              (.leaf (some ((false))))))))))
theorem g2All_run (f0 : Bool) (f1 : Fr → Bool) (f2 : Fr → UInt64 → Bool → Pg2) (f3 : Pg2 → Pg2 → Pg2) (f4 : Pg2 → Pg2 → Pg2) (f5 : Pg2 → Pg2) (f6 : Pg2 → Pg2) (f7 : Pg2 → Fr → Pg2) (f8 : Pg2 → Fr → Pg2) (f9 : Pg2 → Pg2 → Bool) (f10 : Pg2 → Bool) (a : Fr) (b : Fr) (n : UInt64) (out : Bool) (same : Bool) (k : Fr) : plainRun (En [(36, K0 kBool.rs.res f0), (16, Krb f1), (37, K3 (kRow Fr).arg kU64.arg kBool.arg (kRow Pg2).rs.res f2), (38, K2 (kRow Pg2).arg (kRow Pg2).arg (kRow Pg2).rs.res f3), (39, K2 (kRow Pg2).arg (kRow Pg2).arg (kRow Pg2).rs.res f4), (40, K1 (kRow Pg2).arg (kRow Pg2).rs.res f5), (41, K1 (kRow Pg2).arg (kRow Pg2).rs.res f6), (42, K2 (kRow Pg2).arg (kRow Fr).arg (kRow Pg2).rs.res f7), (43, K2 (kRow Pg2).arg (kRow Fr).arg (kRow Pg2).rs.res f8), (44, K2 (kRow Pg2).arg (kRow Pg2).arg kBool.rs.res f9), (45, K1 (kRow Pg2).arg kBool.rs.res f10)]) kBool.rs 300 Try.f9 [.one ((kRow Fr).av a), .one ((kRow Fr).av b), .one (kU64.av n), .one (kBool.av out), .one (kBool.av same), .one ((kRow Fr).av k)] = g2All_T f0 f1 f2 f3 f4 f5 f6 f7 f8 f9 f10 a b n out same k := by kernel_rfl
theorem g2All_sat (f0 : Bool) (f1 : Fr → Bool) (f2 : Fr → UInt64 → Bool → Pg2) (f3 : Pg2 → Pg2 → Pg2) (f4 : Pg2 → Pg2 → Pg2) (f5 : Pg2 → Pg2) (f6 : Pg2 → Pg2) (f7 : Pg2 → Fr → Pg2) (f8 : Pg2 → Fr → Pg2) (f9 : Pg2 → Pg2 → Bool) (f10 : Pg2 → Bool) (a : Fr) (b : Fr) (n : UInt64) (out : Bool) (same : Bool) (k : Fr) : (g2All_T f0 f1 f2 f3 f4 f5 f6 f7 f8 f9 f10 a b n out same k).sat fun q => q = some (g2All_G f0 f1 f2 f3 f4 f5 f6 f7 f8 f9 f10 a b n out same k) := ⟨fun h0 => (show some _ = some _ from congrArg some (by unfold g2All_G; rw [h0])), fun h0 => ⟨fun h1 => (show some _ = some _ from congrArg some (by unfold g2All_G; rw [h0, h1])), fun h1 => ⟨fun h2 => (show some _ = some _ from congrArg some (by unfold g2All_G; rw [h0, h1, h2])), fun h2 => ⟨fun h3 => (show some _ = some _ from congrArg some (by unfold g2All_G; rw [h0, h1, h2, h3])), fun h3 => ⟨fun h4 => ⟨fun h5 => ⟨fun h6 => ⟨fun h7 => ⟨fun h8 => ⟨fun h9 => (show some _ = some _ from congrArg some (by unfold g2All_G; rw [h0, h1, h2, h3, h4, h5, h6, h7, h8, h9])), fun h9 => (show some _ = some _ from congrArg some (by unfold g2All_G; rw [h0, h1, h2, h3, h4, h5, h6, h7, h8, h9]))⟩, fun h8 => (show some _ = some _ from congrArg some (by unfold g2All_G; rw [h0, h1, h2, h3, h4, h5, h6, h7, h8]))⟩, fun h7 => (show some _ = some _ from congrArg some (by unfold g2All_G; rw [h0, h1, h2, h3, h4, h5, h6, h7]))⟩, fun h6 => (show some _ = some _ from congrArg some (by unfold g2All_G; rw [h0, h1, h2, h3, h4, h5, h6]))⟩, fun h5 => (show some _ = some _ from congrArg some (by unfold g2All_G; rw [h0, h1, h2, h3, h4, h5]))⟩, fun h4 => ⟨fun h5 => ⟨fun h6 => ⟨fun h7 => ⟨fun h8 => ⟨fun h9 => (show some _ = some _ from congrArg some (by unfold g2All_G; rw [h0, h1, h2, h3, h4, h5, h6, h7, h8, h9])), fun h9 => (show some _ = some _ from congrArg some (by unfold g2All_G; rw [h0, h1, h2, h3, h4, h5, h6, h7, h8, h9]))⟩, fun h8 => (show some _ = some _ from congrArg some (by unfold g2All_G; rw [h0, h1, h2, h3, h4, h5, h6, h7, h8]))⟩, fun h7 => (show some _ = some _ from congrArg some (by unfold g2All_G; rw [h0, h1, h2, h3, h4, h5, h6, h7]))⟩, fun h6 => (show some _ = some _ from congrArg some (by unfold g2All_G; rw [h0, h1, h2, h3, h4, h5, h6]))⟩, fun h5 => (show some _ = some _ from congrArg some (by unfold g2All_G; rw [h0, h1, h2, h3, h4, h5]))⟩⟩⟩⟩⟩⟩
def g2All (a : Fr) (b : Fr) (n : UInt64) (out : Bool) (same : Bool) (k : Fr) : Bool := g2All_G begun9 mayRF point9 addG2 plus2R negG2 minus2R mulG2 times2R eqG2 onG2 a b n out same k
theorem g2All_gives (a : Fr) (b : Fr) (n : UInt64) (out : Bool) (same : Bool) (k : Fr) (w : World) : Gives Try.prog 9 ((KdL.cons (kRow Fr) (KdL.cons (kRow Fr) (KdL.cons kU64 (KdL.cons kBool (KdL.cons kBool (KdL.cons (kRow Fr) KdL.nil)))))).vals (a, b, n, out, same, k, ())).toArray w kBool.rs.res (g2All a b n out same k) :=
  plain_gives (En_ok (.cons begun9_ok (.cons mayR_ok (.cons point9_ok (.cons addG2_ok (.cons plus2R_ok (.cons negG2_ok (.cons minus2R_ok (.cons mulG2_ok (.cons times2R_ok (.cons eqG2_ok (.cons onG2_ok .nil)))))))))))) Try.func9 300 (KdL.cons (kRow Fr) (KdL.cons (kRow Fr) (KdL.cons kU64 (KdL.cons kBool (KdL.cons kBool (KdL.cons (kRow Fr) KdL.nil)))))) kBool.rs (a, b, n, out, same, k, ()) (g2All_run begun9 mayRF point9 addG2 plus2R negG2 minus2R mulG2 times2R eqG2 onG2 a b n out same k) (g2All_sat begun9 mayRF point9 addG2 plus2R negG2 minus2R mulG2 times2R eqG2 onG2 a b n out same k) w
theorem g2All_ok : CallOk Try.prog 9 (KN (KdL.cons (kRow Fr) (KdL.cons (kRow Fr) (KdL.cons kU64 (KdL.cons kBool (KdL.cons kBool (KdL.cons (kRow Fr) KdL.nil)))))) kBool.rs.res (fun x => g2All x.1 x.2.1 x.2.2.1 x.2.2.2.1 x.2.2.2.2.1 x.2.2.2.2.2.1)) :=
  PN (En_ok (.cons begun9_ok (.cons mayR_ok (.cons point9_ok (.cons addG2_ok (.cons plus2R_ok (.cons negG2_ok (.cons minus2R_ok (.cons mulG2_ok (.cons times2R_ok (.cons eqG2_ok (.cons onG2_ok .nil)))))))))))) Try.func9 (bodied Try.func9 (by kernel_rfl) (by kernel_rfl)) 300 (KdL.cons (kRow Fr) (KdL.cons (kRow Fr) (KdL.cons kU64 (KdL.cons kBool (KdL.cons kBool (KdL.cons (kRow Fr) KdL.nil)))))) kBool.rs (fun x => g2All x.1 x.2.1 x.2.2.1 x.2.2.2.1 x.2.2.2.2.1 x.2.2.2.2.2.1) (T := fun x => g2All_T begun9 mayRF point9 addG2 plus2R negG2 minus2R mulG2 times2R eqG2 onG2 x.1 x.2.1 x.2.2.1 x.2.2.2.1 x.2.2.2.2.1 x.2.2.2.2.2.1) (fun x => g2All_run begun9 mayRF point9 addG2 plus2R negG2 minus2R mulG2 times2R eqG2 onG2 x.1 x.2.1 x.2.2.1 x.2.2.2.1 x.2.2.2.2.1 x.2.2.2.2.2.1) (fun x => g2All_sat begun9 mayRF point9 addG2 plus2R negG2 minus2R mulG2 times2R eqG2 onG2 x.1 x.2.1 x.2.2.1 x.2.2.2.1 x.2.2.2.2.1 x.2.2.2.2.2.1)
def g1Group_G (f0 : Bool) (f1 : Fr → Bool) (f2 : UInt64 → Pg1 × Bool) (f3 : Pg1 → Fr → Pg1) (f4 : Pg1) (f5 : Pg1 → Bool) (f6 : Pg1 → Pg1 → Pg1) (f7 : Pg1 → Pg1 → Bool) (f8 : Pg1 → Pg1) (f9 : Pg1 → Bool) (f10 : Fr → Fr → Fr) (f11 : Fr → Fr → Fr) (a : Fr) (b : Fr) (n : UInt64) (out : Bool) : Bool := (match (!(f0)) with | true => ((false)) | false => (match (!(f1 a)) with | true => ((true)) | false => (match (!(f1 b)) with | true => ((true)) | false => (match (!(out)) with | true => (match (!(f5 (f3 f4 a))) with | true => ((true)) | false => (match (f7 (f6 (f6 (f3 f4 a) (f3 f4 b)) (f6 (f3 f4 b) (f3 f4 b))) (f6 (f3 f4 a) (f6 (f3 f4 b) (f6 (f3 f4 b) (f3 f4 b))))) with | true => (match (f7 (f6 (f3 f4 a) (f3 f4 b)) (f6 (f3 f4 b) (f3 f4 a))) with | true => (match (f7 (f6 (f3 f4 a) infG1) (f3 f4 a)) with | true => (match (out) with | true => (match (f7 (f6 (f3 f4 a) (f8 (f3 f4 a))) infG1) with | true => (match (f5 (f6 (f3 f4 a) (f3 f4 b))) with | true => ((f9 (f3 f4 b))) | false => ((false))) | false => ((false))) | false => (match (f7 (f6 (f3 f4 a) (f8 (f3 f4 a))) infG1) with | true => (match (f7 (f6 (f3 f4 a) (f3 f4 b)) (f3 f4 (f10 a b))) with | true => (match (f7 (f3 (f3 f4 a) b) (f3 f4 (f11 a b))) with | true => ((f9 (f3 f4 a))) | false => ((false))) | false => ((false))) | false => ((false)))) | false => (match (out) with | true => ((false)) | false => ((false)))) | false => (match (out) with | true => ((false)) | false => ((false)))) | false => (match (out) with | true => ((false)) | false => ((false))))) | false => (match (!(f5 (f2 n).fst)) with | true => ((true)) | false => (match (f7 (f6 (f6 (f2 n).fst (f3 f4 b)) (f6 (f3 f4 b) (f3 f4 b))) (f6 (f2 n).fst (f6 (f3 f4 b) (f6 (f3 f4 b) (f3 f4 b))))) with | true => (match (f7 (f6 (f2 n).fst (f3 f4 b)) (f6 (f3 f4 b) (f2 n).fst)) with | true => (match (f7 (f6 (f2 n).fst infG1) (f2 n).fst) with | true => (match (out) with | true => (match (f7 (f6 (f2 n).fst (f8 (f2 n).fst)) infG1) with | true => (match (f5 (f6 (f2 n).fst (f3 f4 b))) with | true => ((f9 (f3 f4 b))) | false => ((false))) | false => ((false))) | false => (match (f7 (f6 (f2 n).fst (f8 (f2 n).fst)) infG1) with | true => (match (f7 (f6 (f2 n).fst (f3 f4 b)) (f3 f4 (f10 a b))) with | true => (match (f7 (f3 (f2 n).fst b) (f3 f4 (f11 a b))) with | true => ((f9 (f2 n).fst)) | false => ((false))) | false => ((false))) | false => ((false)))) | false => (match (out) with | true => ((false)) | false => ((false)))) | false => (match (out) with | true => ((false)) | false => ((false)))) | false => (match (out) with | true => ((false)) | false => ((false)))))))))
def g1Group_T (f0 : Bool) (f1 : Fr → Bool) (f2 : UInt64 → Pg1 × Bool) (f3 : Pg1 → Fr → Pg1) (f4 : Pg1) (f5 : Pg1 → Bool) (f6 : Pg1 → Pg1 → Pg1) (f7 : Pg1 → Pg1 → Bool) (f8 : Pg1 → Pg1) (f9 : Pg1 → Bool) (f10 : Fr → Fr → Fr) (f11 : Fr → Fr → Fr) (a : Fr) (b : Fr) (n : UInt64) (out : Bool) : Tree (Option (Bool)) :=
  (.br (!(f0))
    (.leaf (some ((false))))
    (.br (!(f1 a))
      (.leaf (some ((true))))
      (.br (!(f1 b))
        (.leaf (some ((true))))
        (.br (!(out))
          (.br (!(f5 (f3 f4 a)))
            (.leaf (some ((true))))
            (.br (f7 (f6 (f6 (f3 f4 a) (f3 f4 b)) (f6 (f3 f4 b) (f3 f4 b))) (f6 (f3 f4 a) (f6 (f3 f4 b) (f6 (f3 f4 b) (f3 f4 b)))))
              (.br (f7 (f6 (f3 f4 a) (f3 f4 b)) (f6 (f3 f4 b) (f3 f4 a)))
                (.br (f7 (f6 (f3 f4 a) infG1) (f3 f4 a))
                  (.br (out)
                    (.br (f7 (f6 (f3 f4 a) (f8 (f3 f4 a))) infG1)
                      (.br (f5 (f6 (f3 f4 a) (f3 f4 b)))
                        (.leaf (some ((f9 (f3 f4 b)))))
                        (.leaf (some ((false)))))
                      (.leaf (some ((false)))))
                    (.br (f7 (f6 (f3 f4 a) (f8 (f3 f4 a))) infG1)
                      (.br (f7 (f6 (f3 f4 a) (f3 f4 b)) (f3 f4 (f10 a b)))
                        (.br (f7 (f3 (f3 f4 a) b) (f3 f4 (f11 a b)))
                          (.leaf (some ((f9 (f3 f4 a)))))
                          (.leaf (some ((false)))))
                        (.leaf (some ((false)))))
                      (.leaf (some ((false))))))
                  (.br (out)
                    (.leaf (some ((false))))
                    (.leaf (some ((false))))))
                (.br (out)
                  (.leaf (some ((false))))
                  (.leaf (some ((false))))))
              (.br (out)
                (.leaf (some ((false))))
                (.leaf (some ((false)))))))
          (.br (!(f5 (f2 n).fst))
            (.leaf (some ((true))))
            (.br (f7 (f6 (f6 (f2 n).fst (f3 f4 b)) (f6 (f3 f4 b) (f3 f4 b))) (f6 (f2 n).fst (f6 (f3 f4 b) (f6 (f3 f4 b) (f3 f4 b)))))
              (.br (f7 (f6 (f2 n).fst (f3 f4 b)) (f6 (f3 f4 b) (f2 n).fst))
                (.br (f7 (f6 (f2 n).fst infG1) (f2 n).fst)
                  (.br (out)
                    (.br (f7 (f6 (f2 n).fst (f8 (f2 n).fst)) infG1)
                      (.br (f5 (f6 (f2 n).fst (f3 f4 b)))
                        (.leaf (some ((f9 (f3 f4 b)))))
                        (.leaf (some ((false)))))
                      (.leaf (some ((false)))))
                    (.br (f7 (f6 (f2 n).fst (f8 (f2 n).fst)) infG1)
                      (.br (f7 (f6 (f2 n).fst (f3 f4 b)) (f3 f4 (f10 a b)))
                        (.br (f7 (f3 (f2 n).fst b) (f3 f4 (f11 a b)))
                          (.leaf (some ((f9 (f2 n).fst))))
                          (.leaf (some ((false)))))
                        (.leaf (some ((false)))))
                      (.leaf (some ((false))))))
                  (.br (out)
                    (.leaf (some ((false))))
                    (.leaf (some ((false))))))
                (.br (out)
                  (.leaf (some ((false))))
                  (.leaf (some ((false))))))
              (.br (out)
                (.leaf (some ((false))))
                (.leaf (some ((false)))))))))))
theorem g1Group_run (f0 : Bool) (f1 : Fr → Bool) (f2 : UInt64 → Pg1 × Bool) (f3 : Pg1 → Fr → Pg1) (f4 : Pg1) (f5 : Pg1 → Bool) (f6 : Pg1 → Pg1 → Pg1) (f7 : Pg1 → Pg1 → Bool) (f8 : Pg1 → Pg1) (f9 : Pg1 → Bool) (f10 : Fr → Fr → Fr) (f11 : Fr → Fr → Fr) (a : Fr) (b : Fr) (n : UInt64) (out : Bool) : plainRun (En [(15, K0 kBool.rs.res f0), (16, Krb f1), (28, K1 kU64.arg ((kRow Pg1).rs2 kBool).res f2), (22, K2 (kRow Pg1).arg (kRow Fr).arg (kRow Pg1).rs.res f3), (29, K0 (kRow Pg1).rs.res f4), (25, K1 (kRow Pg1).arg kBool.rs.res f5), (18, K2 (kRow Pg1).arg (kRow Pg1).arg (kRow Pg1).rs.res f6), (24, K2 (kRow Pg1).arg (kRow Pg1).arg kBool.rs.res f7), (20, K1 (kRow Pg1).arg (kRow Pg1).rs.res f8), (30, K1 (kRow Pg1).arg kBool.rs.res f9), (31, Kr2 f10), (32, Kr2 f11)]) kBool.rs 300 Try.f5 [.one ((kRow Fr).av a), .one ((kRow Fr).av b), .one (kU64.av n), .one (kBool.av out)] = g1Group_T f0 f1 f2 f3 f4 f5 f6 f7 f8 f9 f10 f11 a b n out := by kernel_rfl
theorem g1Group_sat (f0 : Bool) (f1 : Fr → Bool) (f2 : UInt64 → Pg1 × Bool) (f3 : Pg1 → Fr → Pg1) (f4 : Pg1) (f5 : Pg1 → Bool) (f6 : Pg1 → Pg1 → Pg1) (f7 : Pg1 → Pg1 → Bool) (f8 : Pg1 → Pg1) (f9 : Pg1 → Bool) (f10 : Fr → Fr → Fr) (f11 : Fr → Fr → Fr) (a : Fr) (b : Fr) (n : UInt64) (out : Bool) : (g1Group_T f0 f1 f2 f3 f4 f5 f6 f7 f8 f9 f10 f11 a b n out).sat fun q => q = some (g1Group_G f0 f1 f2 f3 f4 f5 f6 f7 f8 f9 f10 f11 a b n out) := ⟨fun h0 => (show some _ = some _ from congrArg some (by unfold g1Group_G; rw [h0])), fun h0 => ⟨fun h1 => (show some _ = some _ from congrArg some (by unfold g1Group_G; rw [h0, h1])), fun h1 => ⟨fun h2 => (show some _ = some _ from congrArg some (by unfold g1Group_G; rw [h0, h1, h2])), fun h2 => ⟨fun h3 => ⟨fun h4 => (show some _ = some _ from congrArg some (by unfold g1Group_G; rw [h0, h1, h2, h3, h4])), fun h4 => ⟨fun h5 => ⟨fun h6 => ⟨fun h7 => ⟨fun h8 => ⟨fun h9 => ⟨fun h10 => (show some _ = some _ from congrArg some (by unfold g1Group_G; rw [h0, h1, h2, h3, h4, h5, h6, h7, h8, h9, h10])), fun h10 => (show some _ = some _ from congrArg some (by unfold g1Group_G; rw [h0, h1, h2, h3, h4, h5, h6, h7, h8, h9, h10]))⟩, fun h9 => (show some _ = some _ from congrArg some (by unfold g1Group_G; rw [h0, h1, h2, h3, h4, h5, h6, h7, h8, h9]))⟩, fun h8 => ⟨fun h9 => ⟨fun h10 => ⟨fun h11 => (show some _ = some _ from congrArg some (by unfold g1Group_G; rw [h0, h1, h2, h3, h4, h5, h6, h7, h8, h9, h10, h11])), fun h11 => (show some _ = some _ from congrArg some (by unfold g1Group_G; rw [h0, h1, h2, h3, h4, h5, h6, h7, h8, h9, h10, h11]))⟩, fun h10 => (show some _ = some _ from congrArg some (by unfold g1Group_G; rw [h0, h1, h2, h3, h4, h5, h6, h7, h8, h9, h10]))⟩, fun h9 => (show some _ = some _ from congrArg some (by unfold g1Group_G; rw [h0, h1, h2, h3, h4, h5, h6, h7, h8, h9]))⟩⟩, fun h7 => ⟨fun h8 => (show some _ = some _ from congrArg some (by unfold g1Group_G; rw [h0, h1, h2, h3, h4, h5, h6, h7, h8])), fun h8 => (show some _ = some _ from congrArg some (by unfold g1Group_G; rw [h0, h1, h2, h3, h4, h5, h6, h7, h8]))⟩⟩, fun h6 => ⟨fun h7 => (show some _ = some _ from congrArg some (by unfold g1Group_G; rw [h0, h1, h2, h3, h4, h5, h6, h7])), fun h7 => (show some _ = some _ from congrArg some (by unfold g1Group_G; rw [h0, h1, h2, h3, h4, h5, h6, h7]))⟩⟩, fun h5 => ⟨fun h6 => (show some _ = some _ from congrArg some (by unfold g1Group_G; rw [h0, h1, h2, h3, h4, h5, h6])), fun h6 => (show some _ = some _ from congrArg some (by unfold g1Group_G; rw [h0, h1, h2, h3, h4, h5, h6]))⟩⟩⟩, fun h3 => ⟨fun h4 => (show some _ = some _ from congrArg some (by unfold g1Group_G; rw [h0, h1, h2, h3, h4])), fun h4 => ⟨fun h5 => ⟨fun h6 => ⟨fun h7 => ⟨fun h8 => ⟨fun h9 => ⟨fun h10 => (show some _ = some _ from congrArg some (by unfold g1Group_G; rw [h0, h1, h2, h3, h4, h5, h6, h7, h8, h9, h10])), fun h10 => (show some _ = some _ from congrArg some (by unfold g1Group_G; rw [h0, h1, h2, h3, h4, h5, h6, h7, h8, h9, h10]))⟩, fun h9 => (show some _ = some _ from congrArg some (by unfold g1Group_G; rw [h0, h1, h2, h3, h4, h5, h6, h7, h8, h9]))⟩, fun h8 => ⟨fun h9 => ⟨fun h10 => ⟨fun h11 => (show some _ = some _ from congrArg some (by unfold g1Group_G; rw [h0, h1, h2, h3, h4, h5, h6, h7, h8, h9, h10, h11])), fun h11 => (show some _ = some _ from congrArg some (by unfold g1Group_G; rw [h0, h1, h2, h3, h4, h5, h6, h7, h8, h9, h10, h11]))⟩, fun h10 => (show some _ = some _ from congrArg some (by unfold g1Group_G; rw [h0, h1, h2, h3, h4, h5, h6, h7, h8, h9, h10]))⟩, fun h9 => (show some _ = some _ from congrArg some (by unfold g1Group_G; rw [h0, h1, h2, h3, h4, h5, h6, h7, h8, h9]))⟩⟩, fun h7 => ⟨fun h8 => (show some _ = some _ from congrArg some (by unfold g1Group_G; rw [h0, h1, h2, h3, h4, h5, h6, h7, h8])), fun h8 => (show some _ = some _ from congrArg some (by unfold g1Group_G; rw [h0, h1, h2, h3, h4, h5, h6, h7, h8]))⟩⟩, fun h6 => ⟨fun h7 => (show some _ = some _ from congrArg some (by unfold g1Group_G; rw [h0, h1, h2, h3, h4, h5, h6, h7])), fun h7 => (show some _ = some _ from congrArg some (by unfold g1Group_G; rw [h0, h1, h2, h3, h4, h5, h6, h7]))⟩⟩, fun h5 => ⟨fun h6 => (show some _ = some _ from congrArg some (by unfold g1Group_G; rw [h0, h1, h2, h3, h4, h5, h6])), fun h6 => (show some _ = some _ from congrArg some (by unfold g1Group_G; rw [h0, h1, h2, h3, h4, h5, h6]))⟩⟩⟩⟩⟩⟩⟩
def g1Group (a : Fr) (b : Fr) (n : UInt64) (out : Bool) : Bool := g1Group_G begun8 mayRF out8 mulG1 oneG1 onG1 addG1 eqG1 negG1 inG1 addRF mulRF a b n out
theorem g1Group_gives (a : Fr) (b : Fr) (n : UInt64) (out : Bool) (w : World) : Gives Try.prog 5 ((KdL.cons (kRow Fr) (KdL.cons (kRow Fr) (KdL.cons kU64 (KdL.cons kBool KdL.nil)))).vals (a, b, n, out, ())).toArray w kBool.rs.res (g1Group a b n out) :=
  plain_gives (En_ok (.cons begun8_ok (.cons mayR_ok (.cons out8_ok (.cons mulG1_ok (.cons oneG1_ok (.cons onG1_ok (.cons addG1_ok (.cons eqG1_ok (.cons negG1_ok (.cons inG1_ok (.cons addR_ok (.cons mulR_ok .nil))))))))))))) Try.func5 300 (KdL.cons (kRow Fr) (KdL.cons (kRow Fr) (KdL.cons kU64 (KdL.cons kBool KdL.nil)))) kBool.rs (a, b, n, out, ()) (g1Group_run begun8 mayRF out8 mulG1 oneG1 onG1 addG1 eqG1 negG1 inG1 addRF mulRF a b n out) (g1Group_sat begun8 mayRF out8 mulG1 oneG1 onG1 addG1 eqG1 negG1 inG1 addRF mulRF a b n out) w
theorem g1Group_ok : CallOk Try.prog 5 (KN (KdL.cons (kRow Fr) (KdL.cons (kRow Fr) (KdL.cons kU64 (KdL.cons kBool KdL.nil)))) kBool.rs.res (fun x => g1Group x.1 x.2.1 x.2.2.1 x.2.2.2.1)) :=
  PN (En_ok (.cons begun8_ok (.cons mayR_ok (.cons out8_ok (.cons mulG1_ok (.cons oneG1_ok (.cons onG1_ok (.cons addG1_ok (.cons eqG1_ok (.cons negG1_ok (.cons inG1_ok (.cons addR_ok (.cons mulR_ok .nil))))))))))))) Try.func5 (bodied Try.func5 (by kernel_rfl) (by kernel_rfl)) 300 (KdL.cons (kRow Fr) (KdL.cons (kRow Fr) (KdL.cons kU64 (KdL.cons kBool KdL.nil)))) kBool.rs (fun x => g1Group x.1 x.2.1 x.2.2.1 x.2.2.2.1) (T := fun x => g1Group_T begun8 mayRF out8 mulG1 oneG1 onG1 addG1 eqG1 negG1 inG1 addRF mulRF x.1 x.2.1 x.2.2.1 x.2.2.2.1) (fun x => g1Group_run begun8 mayRF out8 mulG1 oneG1 onG1 addG1 eqG1 negG1 inG1 addRF mulRF x.1 x.2.1 x.2.2.1 x.2.2.2.1) (fun x => g1Group_sat begun8 mayRF out8 mulG1 oneG1 onG1 addG1 eqG1 negG1 inG1 addRF mulRF x.1 x.2.1 x.2.2.1 x.2.2.2.1)
def g2Group_G (f0 : Bool) (f1 : Fr → Bool) (f2 : UInt64 → Pg2 × Bool) (f3 : Pg2 → Fr → Pg2) (f4 : Pg2) (f5 : Pg2 → Bool) (f6 : Pg2 → Pg2 → Pg2) (f7 : Pg2 → Pg2 → Bool) (f8 : Pg2 → Pg2) (f9 : Pg2 → Bool) (f10 : Fr → Fr → Fr) (f11 : Fr → Fr → Fr) (a : Fr) (b : Fr) (n : UInt64) (out : Bool) : Bool := (match (!(f0)) with | true => ((false)) | false => (match (!(f1 a)) with | true => ((true)) | false => (match (!(f1 b)) with | true => ((true)) | false => (match (!(out)) with | true => (match (!(f5 (f3 f4 a))) with | true => ((true)) | false => (match (f7 (f6 (f6 (f3 f4 a) (f3 f4 b)) (f6 (f3 f4 b) (f3 f4 b))) (f6 (f3 f4 a) (f6 (f3 f4 b) (f6 (f3 f4 b) (f3 f4 b))))) with | true => (match (f7 (f6 (f3 f4 a) (f3 f4 b)) (f6 (f3 f4 b) (f3 f4 a))) with | true => (match (f7 (f6 (f3 f4 a) infG2) (f3 f4 a)) with | true => (match (out) with | true => (match (f7 (f6 (f3 f4 a) (f8 (f3 f4 a))) infG2) with | true => (match (f5 (f6 (f3 f4 a) (f3 f4 b))) with | true => ((f9 (f3 f4 b))) | false => ((false))) | false => ((false))) | false => (match (f7 (f6 (f3 f4 a) (f8 (f3 f4 a))) infG2) with | true => (match (f7 (f6 (f3 f4 a) (f3 f4 b)) (f3 f4 (f10 a b))) with | true => (match (f7 (f3 (f3 f4 a) b) (f3 f4 (f11 a b))) with | true => ((f9 (f3 f4 a))) | false => ((false))) | false => ((false))) | false => ((false)))) | false => (match (out) with | true => ((false)) | false => ((false)))) | false => (match (out) with | true => ((false)) | false => ((false)))) | false => (match (out) with | true => ((false)) | false => ((false))))) | false => (match (!(f5 (f2 n).fst)) with | true => ((true)) | false => (match (f7 (f6 (f6 (f2 n).fst (f3 f4 b)) (f6 (f3 f4 b) (f3 f4 b))) (f6 (f2 n).fst (f6 (f3 f4 b) (f6 (f3 f4 b) (f3 f4 b))))) with | true => (match (f7 (f6 (f2 n).fst (f3 f4 b)) (f6 (f3 f4 b) (f2 n).fst)) with | true => (match (f7 (f6 (f2 n).fst infG2) (f2 n).fst) with | true => (match (out) with | true => (match (f7 (f6 (f2 n).fst (f8 (f2 n).fst)) infG2) with | true => (match (f5 (f6 (f2 n).fst (f3 f4 b))) with | true => ((f9 (f3 f4 b))) | false => ((false))) | false => ((false))) | false => (match (f7 (f6 (f2 n).fst (f8 (f2 n).fst)) infG2) with | true => (match (f7 (f6 (f2 n).fst (f3 f4 b)) (f3 f4 (f10 a b))) with | true => (match (f7 (f3 (f2 n).fst b) (f3 f4 (f11 a b))) with | true => ((f9 (f2 n).fst)) | false => ((false))) | false => ((false))) | false => ((false)))) | false => (match (out) with | true => ((false)) | false => ((false)))) | false => (match (out) with | true => ((false)) | false => ((false)))) | false => (match (out) with | true => ((false)) | false => ((false)))))))))
def g2Group_T (f0 : Bool) (f1 : Fr → Bool) (f2 : UInt64 → Pg2 × Bool) (f3 : Pg2 → Fr → Pg2) (f4 : Pg2) (f5 : Pg2 → Bool) (f6 : Pg2 → Pg2 → Pg2) (f7 : Pg2 → Pg2 → Bool) (f8 : Pg2 → Pg2) (f9 : Pg2 → Bool) (f10 : Fr → Fr → Fr) (f11 : Fr → Fr → Fr) (a : Fr) (b : Fr) (n : UInt64) (out : Bool) : Tree (Option (Bool)) :=
  (.br (!(f0))
    (.leaf (some ((false))))
    (.br (!(f1 a))
      (.leaf (some ((true))))
      (.br (!(f1 b))
        (.leaf (some ((true))))
        (.br (!(out))
          (.br (!(f5 (f3 f4 a)))
            (.leaf (some ((true))))
            (.br (f7 (f6 (f6 (f3 f4 a) (f3 f4 b)) (f6 (f3 f4 b) (f3 f4 b))) (f6 (f3 f4 a) (f6 (f3 f4 b) (f6 (f3 f4 b) (f3 f4 b)))))
              (.br (f7 (f6 (f3 f4 a) (f3 f4 b)) (f6 (f3 f4 b) (f3 f4 a)))
                (.br (f7 (f6 (f3 f4 a) infG2) (f3 f4 a))
                  (.br (out)
                    (.br (f7 (f6 (f3 f4 a) (f8 (f3 f4 a))) infG2)
                      (.br (f5 (f6 (f3 f4 a) (f3 f4 b)))
                        (.leaf (some ((f9 (f3 f4 b)))))
                        (.leaf (some ((false)))))
                      (.leaf (some ((false)))))
                    (.br (f7 (f6 (f3 f4 a) (f8 (f3 f4 a))) infG2)
                      (.br (f7 (f6 (f3 f4 a) (f3 f4 b)) (f3 f4 (f10 a b)))
                        (.br (f7 (f3 (f3 f4 a) b) (f3 f4 (f11 a b)))
                          (.leaf (some ((f9 (f3 f4 a)))))
                          (.leaf (some ((false)))))
                        (.leaf (some ((false)))))
                      (.leaf (some ((false))))))
                  (.br (out)
                    (.leaf (some ((false))))
                    (.leaf (some ((false))))))
                (.br (out)
                  (.leaf (some ((false))))
                  (.leaf (some ((false))))))
              (.br (out)
                (.leaf (some ((false))))
                (.leaf (some ((false)))))))
          (.br (!(f5 (f2 n).fst))
            (.leaf (some ((true))))
            (.br (f7 (f6 (f6 (f2 n).fst (f3 f4 b)) (f6 (f3 f4 b) (f3 f4 b))) (f6 (f2 n).fst (f6 (f3 f4 b) (f6 (f3 f4 b) (f3 f4 b)))))
              (.br (f7 (f6 (f2 n).fst (f3 f4 b)) (f6 (f3 f4 b) (f2 n).fst))
                (.br (f7 (f6 (f2 n).fst infG2) (f2 n).fst)
                  (.br (out)
                    (.br (f7 (f6 (f2 n).fst (f8 (f2 n).fst)) infG2)
                      (.br (f5 (f6 (f2 n).fst (f3 f4 b)))
                        (.leaf (some ((f9 (f3 f4 b)))))
                        (.leaf (some ((false)))))
                      (.leaf (some ((false)))))
                    (.br (f7 (f6 (f2 n).fst (f8 (f2 n).fst)) infG2)
                      (.br (f7 (f6 (f2 n).fst (f3 f4 b)) (f3 f4 (f10 a b)))
                        (.br (f7 (f3 (f2 n).fst b) (f3 f4 (f11 a b)))
                          (.leaf (some ((f9 (f2 n).fst))))
                          (.leaf (some ((false)))))
                        (.leaf (some ((false)))))
                      (.leaf (some ((false))))))
                  (.br (out)
                    (.leaf (some ((false))))
                    (.leaf (some ((false))))))
                (.br (out)
                  (.leaf (some ((false))))
                  (.leaf (some ((false))))))
              (.br (out)
                (.leaf (some ((false))))
                (.leaf (some ((false)))))))))))
theorem g2Group_run (f0 : Bool) (f1 : Fr → Bool) (f2 : UInt64 → Pg2 × Bool) (f3 : Pg2 → Fr → Pg2) (f4 : Pg2) (f5 : Pg2 → Bool) (f6 : Pg2 → Pg2 → Pg2) (f7 : Pg2 → Pg2 → Bool) (f8 : Pg2 → Pg2) (f9 : Pg2 → Bool) (f10 : Fr → Fr → Fr) (f11 : Fr → Fr → Fr) (a : Fr) (b : Fr) (n : UInt64) (out : Bool) : plainRun (En [(36, K0 kBool.rs.res f0), (16, Krb f1), (48, K1 kU64.arg ((kRow Pg2).rs2 kBool).res f2), (42, K2 (kRow Pg2).arg (kRow Fr).arg (kRow Pg2).rs.res f3), (49, K0 (kRow Pg2).rs.res f4), (45, K1 (kRow Pg2).arg kBool.rs.res f5), (38, K2 (kRow Pg2).arg (kRow Pg2).arg (kRow Pg2).rs.res f6), (44, K2 (kRow Pg2).arg (kRow Pg2).arg kBool.rs.res f7), (40, K1 (kRow Pg2).arg (kRow Pg2).rs.res f8), (50, K1 (kRow Pg2).arg kBool.rs.res f9), (31, Kr2 f10), (32, Kr2 f11)]) kBool.rs 300 Try.f11 [.one ((kRow Fr).av a), .one ((kRow Fr).av b), .one (kU64.av n), .one (kBool.av out)] = g2Group_T f0 f1 f2 f3 f4 f5 f6 f7 f8 f9 f10 f11 a b n out := by kernel_rfl
theorem g2Group_sat (f0 : Bool) (f1 : Fr → Bool) (f2 : UInt64 → Pg2 × Bool) (f3 : Pg2 → Fr → Pg2) (f4 : Pg2) (f5 : Pg2 → Bool) (f6 : Pg2 → Pg2 → Pg2) (f7 : Pg2 → Pg2 → Bool) (f8 : Pg2 → Pg2) (f9 : Pg2 → Bool) (f10 : Fr → Fr → Fr) (f11 : Fr → Fr → Fr) (a : Fr) (b : Fr) (n : UInt64) (out : Bool) : (g2Group_T f0 f1 f2 f3 f4 f5 f6 f7 f8 f9 f10 f11 a b n out).sat fun q => q = some (g2Group_G f0 f1 f2 f3 f4 f5 f6 f7 f8 f9 f10 f11 a b n out) := ⟨fun h0 => (show some _ = some _ from congrArg some (by unfold g2Group_G; rw [h0])), fun h0 => ⟨fun h1 => (show some _ = some _ from congrArg some (by unfold g2Group_G; rw [h0, h1])), fun h1 => ⟨fun h2 => (show some _ = some _ from congrArg some (by unfold g2Group_G; rw [h0, h1, h2])), fun h2 => ⟨fun h3 => ⟨fun h4 => (show some _ = some _ from congrArg some (by unfold g2Group_G; rw [h0, h1, h2, h3, h4])), fun h4 => ⟨fun h5 => ⟨fun h6 => ⟨fun h7 => ⟨fun h8 => ⟨fun h9 => ⟨fun h10 => (show some _ = some _ from congrArg some (by unfold g2Group_G; rw [h0, h1, h2, h3, h4, h5, h6, h7, h8, h9, h10])), fun h10 => (show some _ = some _ from congrArg some (by unfold g2Group_G; rw [h0, h1, h2, h3, h4, h5, h6, h7, h8, h9, h10]))⟩, fun h9 => (show some _ = some _ from congrArg some (by unfold g2Group_G; rw [h0, h1, h2, h3, h4, h5, h6, h7, h8, h9]))⟩, fun h8 => ⟨fun h9 => ⟨fun h10 => ⟨fun h11 => (show some _ = some _ from congrArg some (by unfold g2Group_G; rw [h0, h1, h2, h3, h4, h5, h6, h7, h8, h9, h10, h11])), fun h11 => (show some _ = some _ from congrArg some (by unfold g2Group_G; rw [h0, h1, h2, h3, h4, h5, h6, h7, h8, h9, h10, h11]))⟩, fun h10 => (show some _ = some _ from congrArg some (by unfold g2Group_G; rw [h0, h1, h2, h3, h4, h5, h6, h7, h8, h9, h10]))⟩, fun h9 => (show some _ = some _ from congrArg some (by unfold g2Group_G; rw [h0, h1, h2, h3, h4, h5, h6, h7, h8, h9]))⟩⟩, fun h7 => ⟨fun h8 => (show some _ = some _ from congrArg some (by unfold g2Group_G; rw [h0, h1, h2, h3, h4, h5, h6, h7, h8])), fun h8 => (show some _ = some _ from congrArg some (by unfold g2Group_G; rw [h0, h1, h2, h3, h4, h5, h6, h7, h8]))⟩⟩, fun h6 => ⟨fun h7 => (show some _ = some _ from congrArg some (by unfold g2Group_G; rw [h0, h1, h2, h3, h4, h5, h6, h7])), fun h7 => (show some _ = some _ from congrArg some (by unfold g2Group_G; rw [h0, h1, h2, h3, h4, h5, h6, h7]))⟩⟩, fun h5 => ⟨fun h6 => (show some _ = some _ from congrArg some (by unfold g2Group_G; rw [h0, h1, h2, h3, h4, h5, h6])), fun h6 => (show some _ = some _ from congrArg some (by unfold g2Group_G; rw [h0, h1, h2, h3, h4, h5, h6]))⟩⟩⟩, fun h3 => ⟨fun h4 => (show some _ = some _ from congrArg some (by unfold g2Group_G; rw [h0, h1, h2, h3, h4])), fun h4 => ⟨fun h5 => ⟨fun h6 => ⟨fun h7 => ⟨fun h8 => ⟨fun h9 => ⟨fun h10 => (show some _ = some _ from congrArg some (by unfold g2Group_G; rw [h0, h1, h2, h3, h4, h5, h6, h7, h8, h9, h10])), fun h10 => (show some _ = some _ from congrArg some (by unfold g2Group_G; rw [h0, h1, h2, h3, h4, h5, h6, h7, h8, h9, h10]))⟩, fun h9 => (show some _ = some _ from congrArg some (by unfold g2Group_G; rw [h0, h1, h2, h3, h4, h5, h6, h7, h8, h9]))⟩, fun h8 => ⟨fun h9 => ⟨fun h10 => ⟨fun h11 => (show some _ = some _ from congrArg some (by unfold g2Group_G; rw [h0, h1, h2, h3, h4, h5, h6, h7, h8, h9, h10, h11])), fun h11 => (show some _ = some _ from congrArg some (by unfold g2Group_G; rw [h0, h1, h2, h3, h4, h5, h6, h7, h8, h9, h10, h11]))⟩, fun h10 => (show some _ = some _ from congrArg some (by unfold g2Group_G; rw [h0, h1, h2, h3, h4, h5, h6, h7, h8, h9, h10]))⟩, fun h9 => (show some _ = some _ from congrArg some (by unfold g2Group_G; rw [h0, h1, h2, h3, h4, h5, h6, h7, h8, h9]))⟩⟩, fun h7 => ⟨fun h8 => (show some _ = some _ from congrArg some (by unfold g2Group_G; rw [h0, h1, h2, h3, h4, h5, h6, h7, h8])), fun h8 => (show some _ = some _ from congrArg some (by unfold g2Group_G; rw [h0, h1, h2, h3, h4, h5, h6, h7, h8]))⟩⟩, fun h6 => ⟨fun h7 => (show some _ = some _ from congrArg some (by unfold g2Group_G; rw [h0, h1, h2, h3, h4, h5, h6, h7])), fun h7 => (show some _ = some _ from congrArg some (by unfold g2Group_G; rw [h0, h1, h2, h3, h4, h5, h6, h7]))⟩⟩, fun h5 => ⟨fun h6 => (show some _ = some _ from congrArg some (by unfold g2Group_G; rw [h0, h1, h2, h3, h4, h5, h6])), fun h6 => (show some _ = some _ from congrArg some (by unfold g2Group_G; rw [h0, h1, h2, h3, h4, h5, h6]))⟩⟩⟩⟩⟩⟩⟩
def g2Group (a : Fr) (b : Fr) (n : UInt64) (out : Bool) : Bool := g2Group_G begun9 mayRF out9 mulG2 oneG2 onG2 addG2 eqG2 negG2 inG2 addRF mulRF a b n out
theorem g2Group_gives (a : Fr) (b : Fr) (n : UInt64) (out : Bool) (w : World) : Gives Try.prog 11 ((KdL.cons (kRow Fr) (KdL.cons (kRow Fr) (KdL.cons kU64 (KdL.cons kBool KdL.nil)))).vals (a, b, n, out, ())).toArray w kBool.rs.res (g2Group a b n out) :=
  plain_gives (En_ok (.cons begun9_ok (.cons mayR_ok (.cons out9_ok (.cons mulG2_ok (.cons oneG2_ok (.cons onG2_ok (.cons addG2_ok (.cons eqG2_ok (.cons negG2_ok (.cons inG2_ok (.cons addR_ok (.cons mulR_ok .nil))))))))))))) Try.func11 300 (KdL.cons (kRow Fr) (KdL.cons (kRow Fr) (KdL.cons kU64 (KdL.cons kBool KdL.nil)))) kBool.rs (a, b, n, out, ()) (g2Group_run begun9 mayRF out9 mulG2 oneG2 onG2 addG2 eqG2 negG2 inG2 addRF mulRF a b n out) (g2Group_sat begun9 mayRF out9 mulG2 oneG2 onG2 addG2 eqG2 negG2 inG2 addRF mulRF a b n out) w
theorem g2Group_ok : CallOk Try.prog 11 (KN (KdL.cons (kRow Fr) (KdL.cons (kRow Fr) (KdL.cons kU64 (KdL.cons kBool KdL.nil)))) kBool.rs.res (fun x => g2Group x.1 x.2.1 x.2.2.1 x.2.2.2.1)) :=
  PN (En_ok (.cons begun9_ok (.cons mayR_ok (.cons out9_ok (.cons mulG2_ok (.cons oneG2_ok (.cons onG2_ok (.cons addG2_ok (.cons eqG2_ok (.cons negG2_ok (.cons inG2_ok (.cons addR_ok (.cons mulR_ok .nil))))))))))))) Try.func11 (bodied Try.func11 (by kernel_rfl) (by kernel_rfl)) 300 (KdL.cons (kRow Fr) (KdL.cons (kRow Fr) (KdL.cons kU64 (KdL.cons kBool KdL.nil)))) kBool.rs (fun x => g2Group x.1 x.2.1 x.2.2.1 x.2.2.2.1) (T := fun x => g2Group_T begun9 mayRF out9 mulG2 oneG2 onG2 addG2 eqG2 negG2 inG2 addRF mulRF x.1 x.2.1 x.2.2.1 x.2.2.2.1) (fun x => g2Group_run begun9 mayRF out9 mulG2 oneG2 onG2 addG2 eqG2 negG2 inG2 addRF mulRF x.1 x.2.1 x.2.2.1 x.2.2.2.1) (fun x => g2Group_sat begun9 mayRF out9 mulG2 oneG2 onG2 addG2 eqG2 negG2 inG2 addRF mulRF x.1 x.2.1 x.2.2.1 x.2.2.2.1)
def g1Out_G (f0 : Bool) (f1 : UInt64 → Pg1 × Bool) (f2 : Fr → Bool) (f3 : Pg1 → Pg1 → Pg1) (f4 : Pg1 → Fr → Pg1) (f5 : Pg1) (f6 : Pg1 → Bool) (f7 : Pg1 → Bool) (f8 : Pg1 → Fr → Pg1) (n : UInt64) (k : Fr) (small : UInt8) : Bool := (match (!(f0)) with | true => ((false)) | false => (match (!((f1 n).snd)) with | true => ((true)) | false => (match (!(f2 k)) with | true => ((true)) | false => (match ((f6 (f1 n).fst) == (f7 (f1 n).fst)) with | true => (match ((f6 (f3 (f1 n).fst (f4 f5 k))) == (f7 (f3 (f1 n).fst (f4 f5 k)))) with | true => (match (f6 infG1) with | true => ((pg1Eq (f8 (f1 n).fst { l0 := small.toUInt64, l1 := UInt64.ofNat 0, l2 := UInt64.ofNat 0, l3 := UInt64.ofNat 0 }) (f4 (f1 n).fst { l0 := small.toUInt64, l1 := UInt64.ofNat 0, l2 := UInt64.ofNat 0, l3 := UInt64.ofNat 0 }))) | false => ((false))) | false => ((false))) | false => ((false))))))
def g1Out_T (f0 : Bool) (f1 : UInt64 → Pg1 × Bool) (f2 : Fr → Bool) (f3 : Pg1 → Pg1 → Pg1) (f4 : Pg1 → Fr → Pg1) (f5 : Pg1) (f6 : Pg1 → Bool) (f7 : Pg1 → Bool) (f8 : Pg1 → Fr → Pg1) (n : UInt64) (k : Fr) (small : UInt8) : Tree (Option (Bool)) :=
  (.br (!(f0))
    (.leaf (some ((false))))
    (.br (!((f1 n).snd))
      (.leaf (some ((true))))
      (.br (!(f2 k))
        (.leaf (some ((true))))
        (.br ((f6 (f1 n).fst) == (f7 (f1 n).fst))
          (.br ((f6 (f3 (f1 n).fst (f4 f5 k))) == (f7 (f3 (f1 n).fst (f4 f5 k))))
            (.br (f6 infG1)
              (.leaf (some ((pg1Eq (f8 (f1 n).fst { l0 := small.toUInt64, l1 := UInt64.ofNat 0, l2 := UInt64.ofNat 0, l3 := UInt64.ofNat 0 }) (f4 (f1 n).fst { l0 := small.toUInt64, l1 := UInt64.ofNat 0, l2 := UInt64.ofNat 0, l3 := UInt64.ofNat 0 })))))
              (.leaf (some ((false)))))
            (.leaf (some ((false)))))
          (.leaf (some ((false))))))))
theorem g1Out_run (f0 : Bool) (f1 : UInt64 → Pg1 × Bool) (f2 : Fr → Bool) (f3 : Pg1 → Pg1 → Pg1) (f4 : Pg1 → Fr → Pg1) (f5 : Pg1) (f6 : Pg1 → Bool) (f7 : Pg1 → Bool) (f8 : Pg1 → Fr → Pg1) (n : UInt64) (k : Fr) (small : UInt8) : plainRun (En [(15, K0 kBool.rs.res f0), (28, K1 kU64.arg ((kRow Pg1).rs2 kBool).res f1), (16, Krb f2), (19, K2 (kRow Pg1).arg (kRow Pg1).arg (kRow Pg1).rs.res f3), (23, K2 (kRow Pg1).arg (kRow Fr).arg (kRow Pg1).rs.res f4), (26, K0 (kRow Pg1).rs.res f5), (30, K1 (kRow Pg1).arg kBool.rs.res f6), (33, K1 (kRow Pg1).arg kBool.rs.res f7), (22, K2 (kRow Pg1).arg (kRow Fr).arg (kRow Pg1).rs.res f8)]) kBool.rs 300 Try.f6 [.one (kU64.av n), .one ((kRow Fr).av k), .one (kU8.av small)] = g1Out_T f0 f1 f2 f3 f4 f5 f6 f7 f8 n k small := by kernel_rfl
theorem g1Out_sat (f0 : Bool) (f1 : UInt64 → Pg1 × Bool) (f2 : Fr → Bool) (f3 : Pg1 → Pg1 → Pg1) (f4 : Pg1 → Fr → Pg1) (f5 : Pg1) (f6 : Pg1 → Bool) (f7 : Pg1 → Bool) (f8 : Pg1 → Fr → Pg1) (n : UInt64) (k : Fr) (small : UInt8) : (g1Out_T f0 f1 f2 f3 f4 f5 f6 f7 f8 n k small).sat fun q => q = some (g1Out_G f0 f1 f2 f3 f4 f5 f6 f7 f8 n k small) := ⟨fun h0 => (show some _ = some _ from congrArg some (by unfold g1Out_G; rw [h0])), fun h0 => ⟨fun h1 => (show some _ = some _ from congrArg some (by unfold g1Out_G; rw [h0, h1])), fun h1 => ⟨fun h2 => (show some _ = some _ from congrArg some (by unfold g1Out_G; rw [h0, h1, h2])), fun h2 => ⟨fun h3 => ⟨fun h4 => ⟨fun h5 => (show some _ = some _ from congrArg some (by unfold g1Out_G; rw [h0, h1, h2, h3, h4, h5])), fun h5 => (show some _ = some _ from congrArg some (by unfold g1Out_G; rw [h0, h1, h2, h3, h4, h5]))⟩, fun h4 => (show some _ = some _ from congrArg some (by unfold g1Out_G; rw [h0, h1, h2, h3, h4]))⟩, fun h3 => (show some _ = some _ from congrArg some (by unfold g1Out_G; rw [h0, h1, h2, h3]))⟩⟩⟩⟩
def g1Out (n : UInt64) (k : Fr) (small : UInt8) : Bool := g1Out_G begun8 out8 mayRF plus1R times1R gen1R inG1 in1R mulG1 n k small
theorem g1Out_gives (n : UInt64) (k : Fr) (small : UInt8) (w : World) : Gives Try.prog 6 ((KdL.cons kU64 (KdL.cons (kRow Fr) (KdL.cons kU8 KdL.nil))).vals (n, k, small, ())).toArray w kBool.rs.res (g1Out n k small) :=
  plain_gives (En_ok (.cons begun8_ok (.cons out8_ok (.cons mayR_ok (.cons plus1R_ok (.cons times1R_ok (.cons gen1R_ok (.cons inG1_ok (.cons in1R_ok (.cons mulG1_ok .nil)))))))))) Try.func6 300 (KdL.cons kU64 (KdL.cons (kRow Fr) (KdL.cons kU8 KdL.nil))) kBool.rs (n, k, small, ()) (g1Out_run begun8 out8 mayRF plus1R times1R gen1R inG1 in1R mulG1 n k small) (g1Out_sat begun8 out8 mayRF plus1R times1R gen1R inG1 in1R mulG1 n k small) w
theorem g1Out_ok : CallOk Try.prog 6 (K3 kU64.arg (kRow Fr).arg kU8.arg kBool.rs.res g1Out) :=
  P3 (En_ok (.cons begun8_ok (.cons out8_ok (.cons mayR_ok (.cons plus1R_ok (.cons times1R_ok (.cons gen1R_ok (.cons inG1_ok (.cons in1R_ok (.cons mulG1_ok .nil)))))))))) Try.func6 (bodied Try.func6 (by kernel_rfl) (by kernel_rfl)) 300 kU64 (kRow Fr) kU8 kBool.rs g1Out (g1Out_run begun8 out8 mayRF plus1R times1R gen1R inG1 in1R mulG1) (g1Out_sat begun8 out8 mayRF plus1R times1R gen1R inG1 in1R mulG1)
def g2Out_G (f0 : Bool) (f1 : UInt64 → Pg2 × Bool) (f2 : Fr → Bool) (f3 : Pg2 → Pg2 → Pg2) (f4 : Pg2 → Fr → Pg2) (f5 : Pg2) (f6 : Pg2 → Bool) (f7 : Pg2 → Bool) (f8 : Pg2 → Fr → Pg2) (n : UInt64) (k : Fr) (small : UInt8) : Bool := (match (!(f0)) with | true => ((false)) | false => (match (!((f1 n).snd)) with | true => ((true)) | false => (match (!(f2 k)) with | true => ((true)) | false => (match ((f6 (f1 n).fst) == (f7 (f1 n).fst)) with | true => (match ((f6 (f3 (f1 n).fst (f4 f5 k))) == (f7 (f3 (f1 n).fst (f4 f5 k)))) with | true => (match (f6 infG2) with | true => ((pg2Eq (f8 (f1 n).fst { l0 := small.toUInt64, l1 := UInt64.ofNat 0, l2 := UInt64.ofNat 0, l3 := UInt64.ofNat 0 }) (f4 (f1 n).fst { l0 := small.toUInt64, l1 := UInt64.ofNat 0, l2 := UInt64.ofNat 0, l3 := UInt64.ofNat 0 }))) | false => ((false))) | false => ((false))) | false => ((false))))))
def g2Out_T (f0 : Bool) (f1 : UInt64 → Pg2 × Bool) (f2 : Fr → Bool) (f3 : Pg2 → Pg2 → Pg2) (f4 : Pg2 → Fr → Pg2) (f5 : Pg2) (f6 : Pg2 → Bool) (f7 : Pg2 → Bool) (f8 : Pg2 → Fr → Pg2) (n : UInt64) (k : Fr) (small : UInt8) : Tree (Option (Bool)) :=
  (.br (!(f0))
    (.leaf (some ((false))))
    (.br (!((f1 n).snd))
      (.leaf (some ((true))))
      (.br (!(f2 k))
        (.leaf (some ((true))))
        (.br ((f6 (f1 n).fst) == (f7 (f1 n).fst))
          (.br ((f6 (f3 (f1 n).fst (f4 f5 k))) == (f7 (f3 (f1 n).fst (f4 f5 k))))
            (.br (f6 infG2)
              (.leaf (some ((pg2Eq (f8 (f1 n).fst { l0 := small.toUInt64, l1 := UInt64.ofNat 0, l2 := UInt64.ofNat 0, l3 := UInt64.ofNat 0 }) (f4 (f1 n).fst { l0 := small.toUInt64, l1 := UInt64.ofNat 0, l2 := UInt64.ofNat 0, l3 := UInt64.ofNat 0 })))))
              (.leaf (some ((false)))))
            (.leaf (some ((false)))))
          (.leaf (some ((false))))))))
theorem g2Out_run (f0 : Bool) (f1 : UInt64 → Pg2 × Bool) (f2 : Fr → Bool) (f3 : Pg2 → Pg2 → Pg2) (f4 : Pg2 → Fr → Pg2) (f5 : Pg2) (f6 : Pg2 → Bool) (f7 : Pg2 → Bool) (f8 : Pg2 → Fr → Pg2) (n : UInt64) (k : Fr) (small : UInt8) : plainRun (En [(36, K0 kBool.rs.res f0), (48, K1 kU64.arg ((kRow Pg2).rs2 kBool).res f1), (16, Krb f2), (39, K2 (kRow Pg2).arg (kRow Pg2).arg (kRow Pg2).rs.res f3), (43, K2 (kRow Pg2).arg (kRow Fr).arg (kRow Pg2).rs.res f4), (46, K0 (kRow Pg2).rs.res f5), (50, K1 (kRow Pg2).arg kBool.rs.res f6), (51, K1 (kRow Pg2).arg kBool.rs.res f7), (42, K2 (kRow Pg2).arg (kRow Fr).arg (kRow Pg2).rs.res f8)]) kBool.rs 300 Try.f12 [.one (kU64.av n), .one ((kRow Fr).av k), .one (kU8.av small)] = g2Out_T f0 f1 f2 f3 f4 f5 f6 f7 f8 n k small := by kernel_rfl
theorem g2Out_sat (f0 : Bool) (f1 : UInt64 → Pg2 × Bool) (f2 : Fr → Bool) (f3 : Pg2 → Pg2 → Pg2) (f4 : Pg2 → Fr → Pg2) (f5 : Pg2) (f6 : Pg2 → Bool) (f7 : Pg2 → Bool) (f8 : Pg2 → Fr → Pg2) (n : UInt64) (k : Fr) (small : UInt8) : (g2Out_T f0 f1 f2 f3 f4 f5 f6 f7 f8 n k small).sat fun q => q = some (g2Out_G f0 f1 f2 f3 f4 f5 f6 f7 f8 n k small) := ⟨fun h0 => (show some _ = some _ from congrArg some (by unfold g2Out_G; rw [h0])), fun h0 => ⟨fun h1 => (show some _ = some _ from congrArg some (by unfold g2Out_G; rw [h0, h1])), fun h1 => ⟨fun h2 => (show some _ = some _ from congrArg some (by unfold g2Out_G; rw [h0, h1, h2])), fun h2 => ⟨fun h3 => ⟨fun h4 => ⟨fun h5 => (show some _ = some _ from congrArg some (by unfold g2Out_G; rw [h0, h1, h2, h3, h4, h5])), fun h5 => (show some _ = some _ from congrArg some (by unfold g2Out_G; rw [h0, h1, h2, h3, h4, h5]))⟩, fun h4 => (show some _ = some _ from congrArg some (by unfold g2Out_G; rw [h0, h1, h2, h3, h4]))⟩, fun h3 => (show some _ = some _ from congrArg some (by unfold g2Out_G; rw [h0, h1, h2, h3]))⟩⟩⟩⟩
def g2Out (n : UInt64) (k : Fr) (small : UInt8) : Bool := g2Out_G begun9 out9 mayRF plus2R times2R gen2R inG2 in2R mulG2 n k small
theorem g2Out_gives (n : UInt64) (k : Fr) (small : UInt8) (w : World) : Gives Try.prog 12 ((KdL.cons kU64 (KdL.cons (kRow Fr) (KdL.cons kU8 KdL.nil))).vals (n, k, small, ())).toArray w kBool.rs.res (g2Out n k small) :=
  plain_gives (En_ok (.cons begun9_ok (.cons out9_ok (.cons mayR_ok (.cons plus2R_ok (.cons times2R_ok (.cons gen2R_ok (.cons inG2_ok (.cons in2R_ok (.cons mulG2_ok .nil)))))))))) Try.func12 300 (KdL.cons kU64 (KdL.cons (kRow Fr) (KdL.cons kU8 KdL.nil))) kBool.rs (n, k, small, ()) (g2Out_run begun9 out9 mayRF plus2R times2R gen2R inG2 in2R mulG2 n k small) (g2Out_sat begun9 out9 mayRF plus2R times2R gen2R inG2 in2R mulG2 n k small) w
theorem g2Out_ok : CallOk Try.prog 12 (K3 kU64.arg (kRow Fr).arg kU8.arg kBool.rs.res g2Out) :=
  P3 (En_ok (.cons begun9_ok (.cons out9_ok (.cons mayR_ok (.cons plus2R_ok (.cons times2R_ok (.cons gen2R_ok (.cons inG2_ok (.cons in2R_ok (.cons mulG2_ok .nil)))))))))) Try.func12 (bodied Try.func12 (by kernel_rfl) (by kernel_rfl)) 300 kU64 (kRow Fr) kU8 kBool.rs g2Out (g2Out_run begun9 out9 mayRF plus2R times2R gen2R inG2 in2R mulG2) (g2Out_sat begun9 out9 mayRF plus2R times2R gen2R inG2 in2R mulG2)

end Go.Proofs.Ytchlamfdofpolaa
