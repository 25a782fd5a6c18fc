/- What the functions of the statements of layers 5 and 6 compute. -/
import Derived.Test.YtehhcpopfgieeaaPk
import Derived.Test.YtehhcpopfgieeaaPj
set_option linter.unusedSimpArgs false
set_option linter.unusedVariables false
namespace Go.Proofs.Ytehhcpopfgieeaa
open Go.RowKit

def begun5_G (f0 : Fp2 → Fp2) (f1 : Fp2 → Fp2 × Bool) (f2 : Fp2 → Fp2 × Int) (f3 : Fp2 → Fp2 → Fp2) (f4 : Fp2 → Bool) (f5 : Fp2 → Fp2) : Bool := (match (fp2Eq (f3 uFp2 uFp2) (f0 oneFp2)) with | true => (match ((f1 (f0 oneFp2)).snd) with | true => (match (fp2Eq ((f1 (f0 oneFp2)).fst) (uFp2)) with | true => (match ((f2 uFp2).snd == 0) with | true => (match (fp2Eq ((f2 uFp2).fst) (f0 uFp2)) with | true => (match (f4 uFp2) with | true => ((fp2Eq (f5 uFp2) ((f2 uFp2).fst))) | false => ((false))) | false => ((false))) | false => ((false))) | false => ((false))) | false => ((false))) | false => ((false)))
def begun5_T (f0 : Fp2 → Fp2) (f1 : Fp2 → Fp2 × Bool) (f2 : Fp2 → Fp2 × Int) (f3 : Fp2 → Fp2 → Fp2) (f4 : Fp2 → Bool) (f5 : Fp2 → Fp2) : Tree (Option (Bool)) :=
  (.br (fp2Eq (f3 uFp2 uFp2) (f0 oneFp2))
    (.br ((f1 (f0 oneFp2)).snd)
      (.br (fp2Eq ((f1 (f0 oneFp2)).fst) (uFp2))
        (.br ((f2 uFp2).snd == 0)
          (.br (fp2Eq ((f2 uFp2).fst) (f0 uFp2))
            (.br (f4 uFp2)
              (.leaf (some ((fp2Eq (f5 uFp2) ((f2 uFp2).fst)))))
              (.leaf (some ((false)))))
            (.leaf (some ((false)))))
          (.leaf (some ((false)))))
        (.leaf (some ((false)))))
      (.leaf (some ((false)))))
    (.leaf (some ((false)))))
theorem begun5_run (f0 : Fp2 → Fp2) (f1 : Fp2 → Fp2 × Bool) (f2 : Fp2 → Fp2 × Int) (f3 : Fp2 → Fp2 → Fp2) (f4 : Fp2 → Bool) (f5 : Fp2 → Fp2) : plainRun (En [(31, K1 (kRow Fp2).arg (kRow Fp2).rs.res f0), (29, K1 (kRow Fp2).arg ((kRow Fp2).rs2 kBool).res f1), (34, K1 (kRow Fp2).arg ((kRow Fp2).rs2 kInt).res f2), (30, K2 (kRow Fp2).arg (kRow Fp2).arg (kRow Fp2).rs.res f3), (33, K1 (kRow Fp2).arg kBool.rs.res f4), (42, K1 (kRow Fp2).arg (kRow Fp2).rs.res f5)]) kBool.rs 300 Try.f27 [] = begun5_T f0 f1 f2 f3 f4 f5 := by kernel_rfl
theorem begun5_sat (f0 : Fp2 → Fp2) (f1 : Fp2 → Fp2 × Bool) (f2 : Fp2 → Fp2 × Int) (f3 : Fp2 → Fp2 → Fp2) (f4 : Fp2 → Bool) (f5 : Fp2 → Fp2) : (begun5_T f0 f1 f2 f3 f4 f5).sat fun q => q = some (begun5_G f0 f1 f2 f3 f4 f5) := ⟨fun h0 => ⟨fun h1 => ⟨fun h2 => ⟨fun h3 => ⟨fun h4 => ⟨fun h5 => (show some _ = some _ from congrArg some (by unfold begun5_G; rw [h0, h1, h2, h3, h4, h5])), fun h5 => (show some _ = some _ from congrArg some (by unfold begun5_G; rw [h0, h1, h2, h3, h4, h5]))⟩, fun h4 => (show some _ = some _ from congrArg some (by unfold begun5_G; rw [h0, h1, h2, h3, h4]))⟩, fun h3 => (show some _ = some _ from congrArg some (by unfold begun5_G; rw [h0, h1, h2, h3]))⟩, fun h2 => (show some _ = some _ from congrArg some (by unfold begun5_G; rw [h0, h1, h2]))⟩, fun h1 => (show some _ = some _ from congrArg some (by unfold begun5_G; rw [h0, h1]))⟩, fun h0 => (show some _ = some _ from congrArg some (by unfold begun5_G; rw [h0]))⟩
def begun5  : Bool := begun5_G negF2 sqrtF2 invF2 mulF2 mayF2 conjF2 
theorem begun5_ok : CallOk Try.prog 27 (K0 kBool.rs.res begun5) :=
  P0 (En_ok (.cons negF2_ok (.cons sqrtF2_ok (.cons invF2_ok (.cons mulF2_ok (.cons mayF2_ok (.cons conjF2_ok .nil))))))) Try.func27 (bodied Try.func27 (by kernel_rfl) (by kernel_rfl)) 300  kBool.rs begun5 (begun5_run negF2 sqrtF2 invF2 mulF2 mayF2 conjF2) (begun5_sat negF2 sqrtF2 invF2 mulF2 mayF2 conjF2)
def begun6_G (f0 : Fp6 → Fp6 × Int) (f1 : Fp6 → Fp6) (f2 : Fp6 → Fp6 → Fp6) (f3 : Fp6 → Bool) (f4 : Fp6 → Fp6 → Fp6) (f5 : Fp6 → Fp6 → Fp6) : Bool := (match (fp6Eq (f1 vFp6) (f2 vFp6 vFp6)) with | true => (match ((f0 vFp6).snd == 0) with | true => (match (fp6Eq (f2 vFp6 (f0 vFp6).fst) (oneFp6)) with | true => (match (f3 vFp6) with | true => ((fp6Eq (f4 (f5 vFp6 vFp6) vFp6) (vFp6))) | false => ((false))) | false => ((false))) | false => ((false))) | false => ((false)))
def begun6_T (f0 : Fp6 → Fp6 × Int) (f1 : Fp6 → Fp6) (f2 : Fp6 → Fp6 → Fp6) (f3 : Fp6 → Bool) (f4 : Fp6 → Fp6 → Fp6) (f5 : Fp6 → Fp6 → Fp6) : Tree (Option (Bool)) :=
  (.br (fp6Eq (f1 vFp6) (f2 vFp6 vFp6))
    (.br ((f0 vFp6).snd == 0)
      (.br (fp6Eq (f2 vFp6 (f0 vFp6).fst) (oneFp6))
        (.br (f3 vFp6)
          (.leaf (some ((fp6Eq (f4 (f5 vFp6 vFp6) vFp6) (vFp6)))))
          (.leaf (some ((false)))))
        (.leaf (some ((false)))))
      (.leaf (some ((false)))))
    (.leaf (some ((false)))))
theorem begun6_run (f0 : Fp6 → Fp6 × Int) (f1 : Fp6 → Fp6) (f2 : Fp6 → Fp6 → Fp6) (f3 : Fp6 → Bool) (f4 : Fp6 → Fp6 → Fp6) (f5 : Fp6 → Fp6 → Fp6) : plainRun (En [(14, K1 (kRow Fp6).arg ((kRow Fp6).rs2 kInt).res f0), (17, K1 (kRow Fp6).arg (kRow Fp6).rs.res f1), (15, K2 (kRow Fp6).arg (kRow Fp6).arg (kRow Fp6).rs.res f2), (18, K1 (kRow Fp6).arg kBool.rs.res f3), (21, K2 (kRow Fp6).arg (kRow Fp6).arg (kRow Fp6).rs.res f4), (16, K2 (kRow Fp6).arg (kRow Fp6).arg (kRow Fp6).rs.res f5)]) kBool.rs 300 Try.f12 [] = begun6_T f0 f1 f2 f3 f4 f5 := by kernel_rfl
theorem begun6_sat (f0 : Fp6 → Fp6 × Int) (f1 : Fp6 → Fp6) (f2 : Fp6 → Fp6 → Fp6) (f3 : Fp6 → Bool) (f4 : Fp6 → Fp6 → Fp6) (f5 : Fp6 → Fp6 → Fp6) : (begun6_T f0 f1 f2 f3 f4 f5).sat fun q => q = some (begun6_G f0 f1 f2 f3 f4 f5) := ⟨fun h0 => ⟨fun h1 => ⟨fun h2 => ⟨fun h3 => (show some _ = some _ from congrArg some (by unfold begun6_G; rw [h0, h1, h2, h3])), fun h3 => (show some _ = some _ from congrArg some (by unfold begun6_G; rw [h0, h1, h2, h3]))⟩, fun h2 => (show some _ = some _ from congrArg some (by unfold begun6_G; rw [h0, h1, h2]))⟩, fun h1 => (show some _ = some _ from congrArg some (by unfold begun6_G; rw [h0, h1]))⟩, fun h0 => (show some _ = some _ from congrArg some (by unfold begun6_G; rw [h0]))⟩
def begun6  : Bool := begun6_G invF6 upF6 mulF6 mayF6 subF6 addF6 
theorem begun6_ok : CallOk Try.prog 12 (K0 kBool.rs.res begun6) :=
  P0 (En_ok (.cons invF6_ok (.cons upF6_ok (.cons mulF6_ok (.cons mayF6_ok (.cons subF6_ok (.cons addF6_ok .nil))))))) Try.func12 (bodied Try.func12 (by kernel_rfl) (by kernel_rfl)) 300  kBool.rs begun6 (begun6_run invF6 upF6 mulF6 mayF6 subF6 addF6) (begun6_sat invF6 upF6 mulF6 mayF6 subF6 addF6)
def begun7_G (f0 : Fp12 → Fp12 × Int) (f1 : Fp12 → Fp12 → Fp12) (f2 : Fp12) (f3 : Fp12 → Bool) : Bool := (match (fp12Eq (f1 wFp12 wFp12) (vFp12)) with | true => (match ((f0 wFp12).snd == 0) with | true => (match (fp12Eq (f1 wFp12 (f0 wFp12).fst) (f2)) with | true => (match (fp12Eq (f2) (oneFp12)) with | true => ((f3 wFp12)) | false => ((false))) | false => ((false))) | false => ((false))) | false => ((false)))
def begun7_T (f0 : Fp12 → Fp12 × Int) (f1 : Fp12 → Fp12 → Fp12) (f2 : Fp12) (f3 : Fp12 → Bool) : Tree (Option (Bool)) :=
  (.br (fp12Eq (f1 wFp12 wFp12) (vFp12))
    (.br ((f0 wFp12).snd == 0)
      (.br (fp12Eq (f1 wFp12 (f0 wFp12).fst) (f2))
        (.br (fp12Eq (f2) (oneFp12))
          (.leaf (some ((f3 wFp12))))
          (.leaf (some ((false)))))
        (.leaf (some ((false)))))
      (.leaf (some ((false)))))
    (.leaf (some ((false)))))
theorem begun7_run (f0 : Fp12 → Fp12 × Int) (f1 : Fp12 → Fp12 → Fp12) (f2 : Fp12) (f3 : Fp12 → Bool) : plainRun (En [(52, K1 (kRow Fp12).arg ((kRow Fp12).rs2 kInt).res f0), (51, K2 (kRow Fp12).arg (kRow Fp12).arg (kRow Fp12).rs.res f1), (54, K0 (kRow Fp12).rs.res f2), (55, K1 (kRow Fp12).arg kBool.rs.res f3)]) kBool.rs 300 Try.f45 [] = begun7_T f0 f1 f2 f3 := by kernel_rfl
theorem begun7_sat (f0 : Fp12 → Fp12 × Int) (f1 : Fp12 → Fp12 → Fp12) (f2 : Fp12) (f3 : Fp12 → Bool) : (begun7_T f0 f1 f2 f3).sat fun q => q = some (begun7_G f0 f1 f2 f3) := ⟨fun h0 => ⟨fun h1 => ⟨fun h2 => ⟨fun h3 => (show some _ = some _ from congrArg some (by unfold begun7_G; rw [h0, h1, h2, h3])), fun h3 => (show some _ = some _ from congrArg some (by unfold begun7_G; rw [h0, h1, h2, h3]))⟩, fun h2 => (show some _ = some _ from congrArg some (by unfold begun7_G; rw [h0, h1, h2]))⟩, fun h1 => (show some _ = some _ from congrArg some (by unfold begun7_G; rw [h0, h1]))⟩, fun h0 => (show some _ = some _ from congrArg some (by unfold begun7_G; rw [h0]))⟩
def begun7  : Bool := begun7_G invF12 mulF12 oneF12 mayF12 
theorem begun7_ok : CallOk Try.prog 45 (K0 kBool.rs.res begun7) :=
  P0 (En_ok (.cons invF12_ok (.cons mulF12_ok (.cons oneF12_ok (.cons mayF12_ok .nil))))) Try.func45 (bodied Try.func45 (by kernel_rfl) (by kernel_rfl)) 300  kBool.rs begun7 (begun7_run invF12 mulF12 oneF12 mayF12) (begun7_sat invF12 mulF12 oneF12 mayF12)
def fp2All_G (f0 : Bool) (f1 : Fp2 → Bool) (f2 : Fp2 → Bool) (f3 : Fp2 → Fp2 × Int) (f4 : Fp2 → Fp2 × Int) (f5 : Fp2 → Fp2 → Fp2) (f6 : Fp2 → Fp2 → Fp2) (f7 : Fp2 → Fp2 → Fp2) (f8 : Fp2 → Fp2 → Fp2) (f9 : Fp2 → Fp2) (f10 : Fp2 → Fp2) (f11 : Fp2 → Fp2 → Fp2) (f12 : Fp2 → Fp2 → Fp2) (f13 : Fp2 → Fp2) (f14 : Fp2 → Fp2) (f15 : Fp2 → Bool) (f16 : Fp2 → Bool) (a : Fp2) (b : Fp2) : Bool := (match (!(f0)) with | true => ((false)) | false => (match (!(f1 a)) with | true => ((f2 a == f1 a)) | false => (match (!(f1 b)) with | true => ((f2 a == f1 a)) | false => (match (fp2Eq (f5 a b) (f6 a b)) with | true => (match (fp2Eq (f7 a b) (f8 a b)) with | true => (match (fp2Eq (f9 a) (f10 a)) with | true => (match (fp2Eq (f11 a b) (f12 a b)) with | true => (match (fp2Eq (f13 a) (f14 a)) with | true => (match (f15 a == f16 a) with | true => (match (f2 a) with | true => (match (fp2Eq ((f3 a).fst) ((f4 a).fst)) with | true => (((f3 a).snd == (f4 a).snd)) | false => ((false))) | false => ((false))) | false => ((false))) | false => ((false))) | false => ((false))) | false => ((false))) | false => ((false))) | false => ((false))))))
def fp2All_T (f0 : Bool) (f1 : Fp2 → Bool) (f2 : Fp2 → Bool) (f3 : Fp2 → Fp2 × Int) (f4 : Fp2 → Fp2 × Int) (f5 : Fp2 → Fp2 → Fp2) (f6 : Fp2 → Fp2 → Fp2) (f7 : Fp2 → Fp2 → Fp2) (f8 : Fp2 → Fp2 → Fp2) (f9 : Fp2 → Fp2) (f10 : Fp2 → Fp2) (f11 : Fp2 → Fp2 → Fp2) (f12 : Fp2 → Fp2 → Fp2) (f13 : Fp2 → Fp2) (f14 : Fp2 → Fp2) (f15 : Fp2 → Bool) (f16 : Fp2 → Bool) (a : Fp2) (b : Fp2) : Tree (Option (Bool)) :=
  (.br (!(f0))
    (.leaf (some ((false))))
    (.br (!(f1 a))
      (.leaf (some ((f2 a == f1 a))))
      (.br (!(f1 b))
        (.leaf (some ((f2 a == f1 a))))
        (.br (fp2Eq (f5 a b) (f6 a b))
          (.br (fp2Eq (f7 a b) (f8 a b))
            (.br (fp2Eq (f9 a) (f10 a))
              (.br (fp2Eq (f11 a b) (f12 a b))
                (.br (fp2Eq (f13 a) (f14 a))
                  (.br (f15 a == f16 a)
                    (.br (f2 a)
                      (.br (fp2Eq ((f3 a).fst) ((f4 a).fst))
                        (.leaf (some (((f3 a).snd == (f4 a).snd))))
                        (.leaf (some ((false)))))
                      (.leaf (some ((false)))))
                    (.leaf (some ((false)))))
                  (.leaf (some ((false)))))
                (.leaf (some ((false)))))
              (.leaf (some ((false)))))
            (.leaf (some ((false)))))
          (.leaf (some ((false))))))))
theorem fp2All_run (f0 : Bool) (f1 : Fp2 → Bool) (f2 : Fp2 → Bool) (f3 : Fp2 → Fp2 × Int) (f4 : Fp2 → Fp2 × Int) (f5 : Fp2 → Fp2 → Fp2) (f6 : Fp2 → Fp2 → Fp2) (f7 : Fp2 → Fp2 → Fp2) (f8 : Fp2 → Fp2 → Fp2) (f9 : Fp2 → Fp2) (f10 : Fp2 → Fp2) (f11 : Fp2 → Fp2 → Fp2) (f12 : Fp2 → Fp2 → Fp2) (f13 : Fp2 → Fp2) (f14 : Fp2 → Fp2) (f15 : Fp2 → Bool) (f16 : Fp2 → Bool) (a : Fp2) (b : Fp2) : plainRun (En [(27, K0 kBool.rs.res f0), (28, K1 (kRow Fp2).arg kBool.rs.res f1), (33, K1 (kRow Fp2).arg kBool.rs.res f2), (34, K1 (kRow Fp2).arg ((kRow Fp2).rs2 kInt).res f3), (35, K1 (kRow Fp2).arg ((kRow Fp2).rs2 kInt).res f4), (36, K2 (kRow Fp2).arg (kRow Fp2).arg (kRow Fp2).rs.res f5), (37, K2 (kRow Fp2).arg (kRow Fp2).arg (kRow Fp2).rs.res f6), (38, K2 (kRow Fp2).arg (kRow Fp2).arg (kRow Fp2).rs.res f7), (39, K2 (kRow Fp2).arg (kRow Fp2).arg (kRow Fp2).rs.res f8), (31, K1 (kRow Fp2).arg (kRow Fp2).rs.res f9), (40, K1 (kRow Fp2).arg (kRow Fp2).rs.res f10), (30, K2 (kRow Fp2).arg (kRow Fp2).arg (kRow Fp2).rs.res f11), (41, K2 (kRow Fp2).arg (kRow Fp2).arg (kRow Fp2).rs.res f12), (42, K1 (kRow Fp2).arg (kRow Fp2).rs.res f13), (43, K1 (kRow Fp2).arg (kRow Fp2).rs.res f14), (32, K1 (kRow Fp2).arg kBool.rs.res f15), (44, K1 (kRow Fp2).arg kBool.rs.res f16)]) kBool.rs 300 Try.f6 [.one ((kRow Fp2).av a), .one ((kRow Fp2).av b)] = fp2All_T f0 f1 f2 f3 f4 f5 f6 f7 f8 f9 f10 f11 f12 f13 f14 f15 f16 a b := by kernel_rfl
theorem fp2All_sat (f0 : Bool) (f1 : Fp2 → Bool) (f2 : Fp2 → Bool) (f3 : Fp2 → Fp2 × Int) (f4 : Fp2 → Fp2 × Int) (f5 : Fp2 → Fp2 → Fp2) (f6 : Fp2 → Fp2 → Fp2) (f7 : Fp2 → Fp2 → Fp2) (f8 : Fp2 → Fp2 → Fp2) (f9 : Fp2 → Fp2) (f10 : Fp2 → Fp2) (f11 : Fp2 → Fp2 → Fp2) (f12 : Fp2 → Fp2 → Fp2) (f13 : Fp2 → Fp2) (f14 : Fp2 → Fp2) (f15 : Fp2 → Bool) (f16 : Fp2 → Bool) (a : Fp2) (b : Fp2) : (fp2All_T f0 f1 f2 f3 f4 f5 f6 f7 f8 f9 f10 f11 f12 f13 f14 f15 f16 a b).sat fun q => q = some (fp2All_G f0 f1 f2 f3 f4 f5 f6 f7 f8 f9 f10 f11 f12 f13 f14 f15 f16 a b) := ⟨fun h0 => (show some _ = some _ from congrArg some (by unfold fp2All_G; rw [h0])), fun h0 => ⟨fun h1 => (show some _ = some _ from congrArg some (by unfold fp2All_G; rw [h0, h1])), fun h1 => ⟨fun h2 => (show some _ = some _ from congrArg some (by unfold fp2All_G; rw [h0, h1, h2])), fun h2 => ⟨fun h3 => ⟨fun h4 => ⟨fun h5 => ⟨fun h6 => ⟨fun h7 => ⟨fun h8 => ⟨fun h9 => ⟨fun h10 => (show some _ = some _ from congrArg some (by unfold fp2All_G; rw [h0, h1, h2, h3, h4, h5, h6, h7, h8, h9, h10])), fun h10 => (show some _ = some _ from congrArg some (by unfold fp2All_G; rw [h0, h1, h2, h3, h4, h5, h6, h7, h8, h9, h10]))⟩, fun h9 => (show some _ = some _ from congrArg some (by unfold fp2All_G; rw [h0, h1, h2, h3, h4, h5, h6, h7, h8, h9]))⟩, fun h8 => (show some _ = some _ from congrArg some (by unfold fp2All_G; rw [h0, h1, h2, h3, h4, h5, h6, h7, h8]))⟩, fun h7 => (show some _ = some _ from congrArg some (by unfold fp2All_G; rw [h0, h1, h2, h3, h4, h5, h6, h7]))⟩, fun h6 => (show some _ = some _ from congrArg some (by unfold fp2All_G; rw [h0, h1, h2, h3, h4, h5, h6]))⟩, fun h5 => (show some _ = some _ from congrArg some (by unfold fp2All_G; rw [h0, h1, h2, h3, h4, h5]))⟩, fun h4 => (show some _ = some _ from congrArg some (by unfold fp2All_G; rw [h0, h1, h2, h3, h4]))⟩, fun h3 => (show some _ = some _ from congrArg some (by unfold fp2All_G; rw [h0, h1, h2, h3]))⟩⟩⟩⟩
def fp2All (a : Fp2) (b : Fp2) : Bool := fp2All_G begun5 may2R mayF2 invF2 inv2R addF2 add2R subF2 sub2R negF2 neg2R mulF2 mul2R conjF2 conj2R greatF2 great2R a b
theorem fp2All_gives (a : Fp2) (b : Fp2) (w : World) : Gives Try.prog 6 ((KdL.cons (kRow Fp2) (KdL.cons (kRow Fp2) KdL.nil)).vals (a, b, ())).toArray w kBool.rs.res (fp2All a b) :=
  plain_gives (En_ok (.cons begun5_ok (.cons may2R_ok (.cons mayF2_ok (.cons invF2_ok (.cons inv2R_ok (.cons addF2_ok (.cons add2R_ok (.cons subF2_ok (.cons sub2R_ok (.cons negF2_ok (.cons neg2R_ok (.cons mulF2_ok (.cons mul2R_ok (.cons conjF2_ok (.cons conj2R_ok (.cons greatF2_ok (.cons great2R_ok .nil)))))))))))))))))) Try.func6 300 (KdL.cons (kRow Fp2) (KdL.cons (kRow Fp2) KdL.nil)) kBool.rs (a, b, ()) (fp2All_run begun5 may2R mayF2 invF2 inv2R addF2 add2R subF2 sub2R negF2 neg2R mulF2 mul2R conjF2 conj2R greatF2 great2R a b) (fp2All_sat begun5 may2R mayF2 invF2 inv2R addF2 add2R subF2 sub2R negF2 neg2R mulF2 mul2R conjF2 conj2R greatF2 great2R a b) w
theorem fp2All_ok : CallOk Try.prog 6 (K2 (kRow Fp2).arg (kRow Fp2).arg kBool.rs.res fp2All) :=
  P2 (En_ok (.cons begun5_ok (.cons may2R_ok (.cons mayF2_ok (.cons invF2_ok (.cons inv2R_ok (.cons addF2_ok (.cons add2R_ok (.cons subF2_ok (.cons sub2R_ok (.cons negF2_ok (.cons neg2R_ok (.cons mulF2_ok (.cons mul2R_ok (.cons conjF2_ok (.cons conj2R_ok (.cons greatF2_ok (.cons great2R_ok .nil)))))))))))))))))) Try.func6 (bodied Try.func6 (by kernel_rfl) (by kernel_rfl)) 300 (kRow Fp2) (kRow Fp2) kBool.rs fp2All (fp2All_run begun5 may2R mayF2 invF2 inv2R addF2 add2R subF2 sub2R negF2 neg2R mulF2 mul2R conjF2 conj2R greatF2 great2R) (fp2All_sat begun5 may2R mayF2 invF2 inv2R addF2 add2R subF2 sub2R negF2 neg2R mulF2 mul2R conjF2 conj2R greatF2 great2R)
def fp6All_G (f0 : Bool) (f1 : Fp6 → Bool) (f2 : Fp6 → Bool) (f3 : Fp6 → Fp6 × Int) (f4 : Fp6 → Fp6 × Int) (f5 : Fp6 → Fp6 → Fp6) (f6 : Fp6 → Fp6 → Fp6) (f7 : Fp6 → Fp6 → Fp6) (f8 : Fp6 → Fp6 → Fp6) (f9 : Fp6 → Fp6) (f10 : Fp6 → Fp6) (f11 : Fp6 → Fp6 → Fp6) (f12 : Fp6 → Fp6 → Fp6) (f13 : Fp6 → Fp6) (f14 : Fp6 → Fp6) (a : Fp6) (b : Fp6) : Bool := (match (!(f0)) with | true => ((false)) | false => (match (!(f1 a)) with | true => ((f2 a == f1 a)) | false => (match (!(f1 b)) with | true => ((f2 a == f1 a)) | false => (match (fp6Eq (f5 a b) (f6 a b)) with | true => (match (fp6Eq (f7 a b) (f8 a b)) with | true => (match (fp6Eq (f9 a) (f10 a)) with | true => (match (fp6Eq (f11 a b) (f12 a b)) with | true => (match (fp6Eq (f13 a) (f14 a)) with | true => (match (f2 a) with | true => (match (fp6Eq ((f3 a).fst) ((f4 a).fst)) with | true => (((f3 a).snd == (f4 a).snd)) | false => ((false))) | false => ((false))) | false => ((false))) | false => ((false))) | false => ((false))) | false => ((false))) | false => ((false))))))
def fp6All_T (f0 : Bool) (f1 : Fp6 → Bool) (f2 : Fp6 → Bool) (f3 : Fp6 → Fp6 × Int) (f4 : Fp6 → Fp6 × Int) (f5 : Fp6 → Fp6 → Fp6) (f6 : Fp6 → Fp6 → Fp6) (f7 : Fp6 → Fp6 → Fp6) (f8 : Fp6 → Fp6 → Fp6) (f9 : Fp6 → Fp6) (f10 : Fp6 → Fp6) (f11 : Fp6 → Fp6 → Fp6) (f12 : Fp6 → Fp6 → Fp6) (f13 : Fp6 → Fp6) (f14 : Fp6 → Fp6) (a : Fp6) (b : Fp6) : Tree (Option (Bool)) :=
  (.br (!(f0))
    (.leaf (some ((false))))
    (.br (!(f1 a))
      (.leaf (some ((f2 a == f1 a))))
      (.br (!(f1 b))
        (.leaf (some ((f2 a == f1 a))))
        (.br (fp6Eq (f5 a b) (f6 a b))
          (.br (fp6Eq (f7 a b) (f8 a b))
            (.br (fp6Eq (f9 a) (f10 a))
              (.br (fp6Eq (f11 a b) (f12 a b))
                (.br (fp6Eq (f13 a) (f14 a))
                  (.br (f2 a)
                    (.br (fp6Eq ((f3 a).fst) ((f4 a).fst))
                      (.leaf (some (((f3 a).snd == (f4 a).snd))))
                      (.leaf (some ((false)))))
                    (.leaf (some ((false)))))
                  (.leaf (some ((false)))))
                (.leaf (some ((false)))))
              (.leaf (some ((false)))))
            (.leaf (some ((false)))))
          (.leaf (some ((false))))))))
theorem fp6All_run (f0 : Bool) (f1 : Fp6 → Bool) (f2 : Fp6 → Bool) (f3 : Fp6 → Fp6 × Int) (f4 : Fp6 → Fp6 × Int) (f5 : Fp6 → Fp6 → Fp6) (f6 : Fp6 → Fp6 → Fp6) (f7 : Fp6 → Fp6 → Fp6) (f8 : Fp6 → Fp6 → Fp6) (f9 : Fp6 → Fp6) (f10 : Fp6 → Fp6) (f11 : Fp6 → Fp6 → Fp6) (f12 : Fp6 → Fp6 → Fp6) (f13 : Fp6 → Fp6) (f14 : Fp6 → Fp6) (a : Fp6) (b : Fp6) : plainRun (En [(12, K0 kBool.rs.res f0), (13, K1 (kRow Fp6).arg kBool.rs.res f1), (18, K1 (kRow Fp6).arg kBool.rs.res f2), (14, K1 (kRow Fp6).arg ((kRow Fp6).rs2 kInt).res f3), (19, K1 (kRow Fp6).arg ((kRow Fp6).rs2 kInt).res f4), (16, K2 (kRow Fp6).arg (kRow Fp6).arg (kRow Fp6).rs.res f5), (20, K2 (kRow Fp6).arg (kRow Fp6).arg (kRow Fp6).rs.res f6), (21, K2 (kRow Fp6).arg (kRow Fp6).arg (kRow Fp6).rs.res f7), (22, K2 (kRow Fp6).arg (kRow Fp6).arg (kRow Fp6).rs.res f8), (23, K1 (kRow Fp6).arg (kRow Fp6).rs.res f9), (24, K1 (kRow Fp6).arg (kRow Fp6).rs.res f10), (15, K2 (kRow Fp6).arg (kRow Fp6).arg (kRow Fp6).rs.res f11), (25, K2 (kRow Fp6).arg (kRow Fp6).arg (kRow Fp6).rs.res f12), (17, K1 (kRow Fp6).arg (kRow Fp6).rs.res f13), (26, K1 (kRow Fp6).arg (kRow Fp6).rs.res f14)]) kBool.rs 300 Try.f4 [.one ((kRow Fp6).av a), .one ((kRow Fp6).av b)] = fp6All_T f0 f1 f2 f3 f4 f5 f6 f7 f8 f9 f10 f11 f12 f13 f14 a b := by kernel_rfl
theorem fp6All_sat (f0 : Bool) (f1 : Fp6 → Bool) (f2 : Fp6 → Bool) (f3 : Fp6 → Fp6 × Int) (f4 : Fp6 → Fp6 × Int) (f5 : Fp6 → Fp6 → Fp6) (f6 : Fp6 → Fp6 → Fp6) (f7 : Fp6 → Fp6 → Fp6) (f8 : Fp6 → Fp6 → Fp6) (f9 : Fp6 → Fp6) (f10 : Fp6 → Fp6) (f11 : Fp6 → Fp6 → Fp6) (f12 : Fp6 → Fp6 → Fp6) (f13 : Fp6 → Fp6) (f14 : Fp6 → Fp6) (a : Fp6) (b : Fp6) : (fp6All_T f0 f1 f2 f3 f4 f5 f6 f7 f8 f9 f10 f11 f12 f13 f14 a b).sat fun q => q = some (fp6All_G f0 f1 f2 f3 f4 f5 f6 f7 f8 f9 f10 f11 f12 f13 f14 a b) := ⟨fun h0 => (show some _ = some _ from congrArg some (by unfold fp6All_G; rw [h0])), fun h0 => ⟨fun h1 => (show some _ = some _ from congrArg some (by unfold fp6All_G; rw [h0, h1])), fun h1 => ⟨fun h2 => (show some _ = some _ from congrArg some (by unfold fp6All_G; rw [h0, h1, h2])), fun h2 => ⟨fun h3 => ⟨fun h4 => ⟨fun h5 => ⟨fun h6 => ⟨fun h7 => ⟨fun h8 => ⟨fun h9 => (show some _ = some _ from congrArg some (by unfold fp6All_G; rw [h0, h1, h2, h3, h4, h5, h6, h7, h8, h9])), fun h9 => (show some _ = some _ from congrArg some (by unfold fp6All_G; rw [h0, h1, h2, h3, h4, h5, h6, h7, h8, h9]))⟩, fun h8 => (show some _ = some _ from congrArg some (by unfold fp6All_G; rw [h0, h1, h2, h3, h4, h5, h6, h7, h8]))⟩, fun h7 => (show some _ = some _ from congrArg some (by unfold fp6All_G; rw [h0, h1, h2, h3, h4, h5, h6, h7]))⟩, fun h6 => (show some _ = some _ from congrArg some (by unfold fp6All_G; rw [h0, h1, h2, h3, h4, h5, h6]))⟩, fun h5 => (show some _ = some _ from congrArg some (by unfold fp6All_G; rw [h0, h1, h2, h3, h4, h5]))⟩, fun h4 => (show some _ = some _ from congrArg some (by unfold fp6All_G; rw [h0, h1, h2, h3, h4]))⟩, fun h3 => (show some _ = some _ from congrArg some (by unfold fp6All_G; rw [h0, h1, h2, h3]))⟩⟩⟩⟩
def fp6All (a : Fp6) (b : Fp6) : Bool := fp6All_G begun6 may6R mayF6 invF6 inv6R addF6 add6R subF6 sub6R negF6 neg6R mulF6 mul6R upF6 up6R a b
theorem fp6All_gives (a : Fp6) (b : Fp6) (w : World) : Gives Try.prog 4 ((KdL.cons (kRow Fp6) (KdL.cons (kRow Fp6) KdL.nil)).vals (a, b, ())).toArray w kBool.rs.res (fp6All a b) :=
  plain_gives (En_ok (.cons begun6_ok (.cons may6R_ok (.cons mayF6_ok (.cons invF6_ok (.cons inv6R_ok (.cons addF6_ok (.cons add6R_ok (.cons subF6_ok (.cons sub6R_ok (.cons negF6_ok (.cons neg6R_ok (.cons mulF6_ok (.cons mul6R_ok (.cons upF6_ok (.cons up6R_ok .nil)))))))))))))))) Try.func4 300 (KdL.cons (kRow Fp6) (KdL.cons (kRow Fp6) KdL.nil)) kBool.rs (a, b, ()) (fp6All_run begun6 may6R mayF6 invF6 inv6R addF6 add6R subF6 sub6R negF6 neg6R mulF6 mul6R upF6 up6R a b) (fp6All_sat begun6 may6R mayF6 invF6 inv6R addF6 add6R subF6 sub6R negF6 neg6R mulF6 mul6R upF6 up6R a b) w
theorem fp6All_ok : CallOk Try.prog 4 (K2 (kRow Fp6).arg (kRow Fp6).arg kBool.rs.res fp6All) :=
  P2 (En_ok (.cons begun6_ok (.cons may6R_ok (.cons mayF6_ok (.cons invF6_ok (.cons inv6R_ok (.cons addF6_ok (.cons add6R_ok (.cons subF6_ok (.cons sub6R_ok (.cons negF6_ok (.cons neg6R_ok (.cons mulF6_ok (.cons mul6R_ok (.cons upF6_ok (.cons up6R_ok .nil)))))))))))))))) Try.func4 (bodied Try.func4 (by kernel_rfl) (by kernel_rfl)) 300 (kRow Fp6) (kRow Fp6) kBool.rs fp6All (fp6All_run begun6 may6R mayF6 invF6 inv6R addF6 add6R subF6 sub6R negF6 neg6R mulF6 mul6R upF6 up6R) (fp6All_sat begun6 may6R mayF6 invF6 inv6R addF6 add6R subF6 sub6R negF6 neg6R mulF6 mul6R upF6 up6R)

end Go.Proofs.Ytehhcpopfgieeaa
