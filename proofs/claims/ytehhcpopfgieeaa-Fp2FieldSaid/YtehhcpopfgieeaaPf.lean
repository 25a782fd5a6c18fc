/- Package fp6, and the document's threes: products and inverses. -/
import Derived.Test.YtehhcpopfgieeaaPe
set_option linter.unusedSimpArgs false
set_option linter.unusedVariables false
namespace Go.Proofs.Ytehhcpopfgieeaa
open Go.RowKit

def may6R_G (f0 : Fp2 → Bool) (a : Fp6) : Bool := (match (f0 a.c0) with | true => (match (f0 a.c1) with | true => ((f0 a.c2)) | false => ((false))) | false => ((false)))
def may6R_T (f0 : Fp2 → Bool) (a : Fp6) : Tree (Option (Bool)) :=
  (.br (f0 a.c0)
    (.br (f0 a.c1)
      (.leaf (some ((f0 a.c2))))
      (.leaf (some ((false)))))
    (.leaf (some ((false)))))
theorem may6R_run (f0 : Fp2 → Bool) (a : Fp6) : plainRun (En [(28, K1 (kRow Fp2).arg kBool.rs.res f0)]) kBool.rs 300 Try.f13 [.one ((kRow Fp6).av a)] = may6R_T f0 a := by kernel_rfl
theorem may6R_sat (f0 : Fp2 → Bool) (a : Fp6) : (may6R_T f0 a).sat fun q => q = some (may6R_G f0 a) := ⟨fun h0 => ⟨fun h1 => (show some _ = some _ from congrArg some (by unfold may6R_G; rw [h0, h1])), fun h1 => (show some _ = some _ from congrArg some (by unfold may6R_G; rw [h0, h1]))⟩, fun h0 => (show some _ = some _ from congrArg some (by unfold may6R_G; rw [h0]))⟩
def may6R (a : Fp6) : Bool := may6R_G may2R a
theorem may6R_ok : CallOk Try.prog 13 (K1 (kRow Fp6).arg kBool.rs.res may6R) :=
  P1 (En_ok (.cons may2R_ok .nil)) Try.func13 (bodied Try.func13 (by kernel_rfl) (by kernel_rfl)) 300 (kRow Fp6) kBool.rs may6R (may6R_run may2R) (may6R_sat may2R)
def add6R_G (f0 : Fp2 → Fp2 → Fp2) (a : Fp6) (b : Fp6) : Fp6 := ({ c0 := f0 a.c0 b.c0, c1 := f0 a.c1 b.c1, c2 := f0 a.c2 b.c2 })
def add6R_T (f0 : Fp2 → Fp2 → Fp2) (a : Fp6) (b : Fp6) : Tree (Option (Fp6)) :=
  (.leaf (some ({ c0 := f0 a.c0 b.c0, c1 := f0 a.c1 b.c1, c2 := f0 a.c2 b.c2 })))
theorem add6R_run (f0 : Fp2 → Fp2 → Fp2) (a : Fp6) (b : Fp6) : plainRun (En [(37, K2 (kRow Fp2).arg (kRow Fp2).arg (kRow Fp2).rs.res f0)]) (kRow Fp6).rs 300 Try.f20 [.one ((kRow Fp6).av a), .one ((kRow Fp6).av b)] = add6R_T f0 a b := by kernel_rfl
theorem add6R_sat (f0 : Fp2 → Fp2 → Fp2) (a : Fp6) (b : Fp6) : (add6R_T f0 a b).sat fun q => q = some (add6R_G f0 a b) := (show some _ = some _ from rfl)
def add6R (a : Fp6) (b : Fp6) : Fp6 := add6R_G add2R a b
theorem add6R_ok : CallOk Try.prog 20 (K2 (kRow Fp6).arg (kRow Fp6).arg (kRow Fp6).rs.res add6R) :=
  P2 (En_ok (.cons add2R_ok .nil)) Try.func20 (bodied Try.func20 (by kernel_rfl) (by kernel_rfl)) 300 (kRow Fp6) (kRow Fp6) (kRow Fp6).rs add6R (add6R_run add2R) (add6R_sat add2R)
def sub6R_G (f0 : Fp2 → Fp2 → Fp2) (a : Fp6) (b : Fp6) : Fp6 := ({ c0 := f0 a.c0 b.c0, c1 := f0 a.c1 b.c1, c2 := f0 a.c2 b.c2 })
def sub6R_T (f0 : Fp2 → Fp2 → Fp2) (a : Fp6) (b : Fp6) : Tree (Option (Fp6)) :=
  (.leaf (some ({ c0 := f0 a.c0 b.c0, c1 := f0 a.c1 b.c1, c2 := f0 a.c2 b.c2 })))
theorem sub6R_run (f0 : Fp2 → Fp2 → Fp2) (a : Fp6) (b : Fp6) : plainRun (En [(39, K2 (kRow Fp2).arg (kRow Fp2).arg (kRow Fp2).rs.res f0)]) (kRow Fp6).rs 300 Try.f22 [.one ((kRow Fp6).av a), .one ((kRow Fp6).av b)] = sub6R_T f0 a b := by kernel_rfl
theorem sub6R_sat (f0 : Fp2 → Fp2 → Fp2) (a : Fp6) (b : Fp6) : (sub6R_T f0 a b).sat fun q => q = some (sub6R_G f0 a b) := (show some _ = some _ from rfl)
def sub6R (a : Fp6) (b : Fp6) : Fp6 := sub6R_G sub2R a b
theorem sub6R_ok : CallOk Try.prog 22 (K2 (kRow Fp6).arg (kRow Fp6).arg (kRow Fp6).rs.res sub6R) :=
  P2 (En_ok (.cons sub2R_ok .nil)) Try.func22 (bodied Try.func22 (by kernel_rfl) (by kernel_rfl)) 300 (kRow Fp6) (kRow Fp6) (kRow Fp6).rs sub6R (sub6R_run sub2R) (sub6R_sat sub2R)
def neg6R_G (f0 : Fp6 → Fp6 → Fp6) (a : Fp6) : Fp6 := (f0 zeroFp6 a)
def neg6R_T (f0 : Fp6 → Fp6 → Fp6) (a : Fp6) : Tree (Option (Fp6)) :=
  (.leaf (some (f0 zeroFp6 a)))
theorem neg6R_run (f0 : Fp6 → Fp6 → Fp6) (a : Fp6) : plainRun (En [(22, K2 (kRow Fp6).arg (kRow Fp6).arg (kRow Fp6).rs.res f0)]) (kRow Fp6).rs 300 Try.f24 [.one ((kRow Fp6).av a)] = neg6R_T f0 a := by kernel_rfl
theorem neg6R_sat (f0 : Fp6 → Fp6 → Fp6) (a : Fp6) : (neg6R_T f0 a).sat fun q => q = some (neg6R_G f0 a) := (show some _ = some _ from rfl)
def neg6R (a : Fp6) : Fp6 := neg6R_G sub6R a
theorem neg6R_ok : CallOk Try.prog 24 (K1 (kRow Fp6).arg (kRow Fp6).rs.res neg6R) :=
  P1 (En_ok (.cons sub6R_ok .nil)) Try.func24 (bodied Try.func24 (by kernel_rfl) (by kernel_rfl)) 300 (kRow Fp6) (kRow Fp6).rs neg6R (neg6R_run sub6R) (neg6R_sat sub6R)
def up6R_G (f0 : Fp2 → Fp2 → Fp2) (f1 : Fp2) (a : Fp6) : Fp6 := ({ c0 := f0 a.c2 f1, c1 := a.c0, c2 := a.c1 })
def up6R_T (f0 : Fp2 → Fp2 → Fp2) (f1 : Fp2) (a : Fp6) : Tree (Option (Fp6)) :=
  (.leaf (some ({ c0 := f0 a.c2 f1, c1 := a.c0, c2 := a.c1 })))
theorem up6R_run (f0 : Fp2 → Fp2 → Fp2) (f1 : Fp2) (a : Fp6) : plainRun (En [(41, K2 (kRow Fp2).arg (kRow Fp2).arg (kRow Fp2).rs.res f0), (70, K0 (kRow Fp2).rs.res f1)]) (kRow Fp6).rs 300 Try.f26 [.one ((kRow Fp6).av a)] = up6R_T f0 f1 a := by kernel_rfl
theorem up6R_sat (f0 : Fp2 → Fp2 → Fp2) (f1 : Fp2) (a : Fp6) : (up6R_T f0 f1 a).sat fun q => q = some (up6R_G f0 f1 a) := (show some _ = some _ from rfl)
def up6R (a : Fp6) : Fp6 := up6R_G mul2R xi2R a
theorem up6R_ok : CallOk Try.prog 26 (K1 (kRow Fp6).arg (kRow Fp6).rs.res up6R) :=
  P1 (En_ok (.cons mul2R_ok (.cons xi2R_ok .nil))) Try.func26 (bodied Try.func26 (by kernel_rfl) (by kernel_rfl)) 300 (kRow Fp6) (kRow Fp6).rs up6R (up6R_run mul2R xi2R) (up6R_sat mul2R xi2R)
def inv6R_G (f0 : Fp2 → Fp2 → Fp2) (f1 : Fp2 → Fp2 → Fp2) (f2 : Fp2) (f3 : Fp2 → Fp2 → Fp2) (f4 : Fp2 → Fp2 × Int) (a : Fp6) : Fp6 × Int := (match ((f4 (f3 (f1 a.c0 (f0 (f1 a.c0 a.c0) (f1 (f1 a.c1 a.c2) f2))) (f1 (f3 (f1 a.c2 (f0 (f1 (f1 a.c2 a.c2) f2) (f1 a.c0 a.c1))) (f1 a.c1 (f0 (f1 a.c1 a.c1) (f1 a.c0 a.c2)))) f2))).snd != 0) with | true => ((zeroFp6, (f4 (f3 (f1 a.c0 (f0 (f1 a.c0 a.c0) (f1 (f1 a.c1 a.c2) f2))) (f1 (f3 (f1 a.c2 (f0 (f1 (f1 a.c2 a.c2) f2) (f1 a.c0 a.c1))) (f1 a.c1 (f0 (f1 a.c1 a.c1) (f1 a.c0 a.c2)))) f2))).snd)) | false => (({ c0 := f1 (f0 (f1 a.c0 a.c0) (f1 (f1 a.c1 a.c2) f2)) (f4 (f3 (f1 a.c0 (f0 (f1 a.c0 a.c0) (f1 (f1 a.c1 a.c2) f2))) (f1 (f3 (f1 a.c2 (f0 (f1 (f1 a.c2 a.c2) f2) (f1 a.c0 a.c1))) (f1 a.c1 (f0 (f1 a.c1 a.c1) (f1 a.c0 a.c2)))) f2))).fst, c1 := f1 (f0 (f1 (f1 a.c2 a.c2) f2) (f1 a.c0 a.c1)) (f4 (f3 (f1 a.c0 (f0 (f1 a.c0 a.c0) (f1 (f1 a.c1 a.c2) f2))) (f1 (f3 (f1 a.c2 (f0 (f1 (f1 a.c2 a.c2) f2) (f1 a.c0 a.c1))) (f1 a.c1 (f0 (f1 a.c1 a.c1) (f1 a.c0 a.c2)))) f2))).fst, c2 := f1 (f0 (f1 a.c1 a.c1) (f1 a.c0 a.c2)) (f4 (f3 (f1 a.c0 (f0 (f1 a.c0 a.c0) (f1 (f1 a.c1 a.c2) f2))) (f1 (f3 (f1 a.c2 (f0 (f1 (f1 a.c2 a.c2) f2) (f1 a.c0 a.c1))) (f1 a.c1 (f0 (f1 a.c1 a.c1) (f1 a.c0 a.c2)))) f2))).fst }, 0)))
def inv6R_T (f0 : Fp2 → Fp2 → Fp2) (f1 : Fp2 → Fp2 → Fp2) (f2 : Fp2) (f3 : Fp2 → Fp2 → Fp2) (f4 : Fp2 → Fp2 × Int) (a : Fp6) : Tree (Option (Fp6 × Int)) :=
  (.br ((f4 (f3 (f1 a.c0 (f0 (f1 a.c0 a.c0) (f1 (f1 a.c1 a.c2) f2))) (f1 (f3 (f1 a.c2 (f0 (f1 (f1 a.c2 a.c2) f2) (f1 a.c0 a.c1))) (f1 a.c1 (f0 (f1 a.c1 a.c1) (f1 a.c0 a.c2)))) f2))).snd != 0)
    (.leaf (some ((zeroFp6, (f4 (f3 (f1 a.c0 (f0 (f1 a.c0 a.c0) (f1 (f1 a.c1 a.c2) f2))) (f1 (f3 (f1 a.c2 (f0 (f1 (f1 a.c2 a.c2) f2) (f1 a.c0 a.c1))) (f1 a.c1 (f0 (f1 a.c1 a.c1) (f1 a.c0 a.c2)))) f2))).snd))))
    (.leaf (some (({ c0 := f1 (f0 (f1 a.c0 a.c0) (f1 (f1 a.c1 a.c2) f2)) (f4 (f3 (f1 a.c0 (f0 (f1 a.c0 a.c0) (f1 (f1 a.c1 a.c2) f2))) (f1 (f3 (f1 a.c2 (f0 (f1 (f1 a.c2 a.c2) f2) (f1 a.c0 a.c1))) (f1 a.c1 (f0 (f1 a.c1 a.c1) (f1 a.c0 a.c2)))) f2))).fst, c1 := f1 (f0 (f1 (f1 a.c2 a.c2) f2) (f1 a.c0 a.c1)) (f4 (f3 (f1 a.c0 (f0 (f1 a.c0 a.c0) (f1 (f1 a.c1 a.c2) f2))) (f1 (f3 (f1 a.c2 (f0 (f1 (f1 a.c2 a.c2) f2) (f1 a.c0 a.c1))) (f1 a.c1 (f0 (f1 a.c1 a.c1) (f1 a.c0 a.c2)))) f2))).fst, c2 := f1 (f0 (f1 a.c1 a.c1) (f1 a.c0 a.c2)) (f4 (f3 (f1 a.c0 (f0 (f1 a.c0 a.c0) (f1 (f1 a.c1 a.c2) f2))) (f1 (f3 (f1 a.c2 (f0 (f1 (f1 a.c2 a.c2) f2) (f1 a.c0 a.c1))) (f1 a.c1 (f0 (f1 a.c1 a.c1) (f1 a.c0 a.c2)))) f2))).fst }, 0)))))
theorem inv6R_run (f0 : Fp2 → Fp2 → Fp2) (f1 : Fp2 → Fp2 → Fp2) (f2 : Fp2) (f3 : Fp2 → Fp2 → Fp2) (f4 : Fp2 → Fp2 × Int) (a : Fp6) : plainRun (En [(39, K2 (kRow Fp2).arg (kRow Fp2).arg (kRow Fp2).rs.res f0), (41, K2 (kRow Fp2).arg (kRow Fp2).arg (kRow Fp2).rs.res f1), (70, K0 (kRow Fp2).rs.res f2), (37, K2 (kRow Fp2).arg (kRow Fp2).arg (kRow Fp2).rs.res f3), (35, K1 (kRow Fp2).arg ((kRow Fp2).rs2 kInt).res f4)]) ((kRow Fp6).rs2 kInt) 300 Try.f19 [.one ((kRow Fp6).av a)] = inv6R_T f0 f1 f2 f3 f4 a := by kernel_rfl
theorem inv6R_sat (f0 : Fp2 → Fp2 → Fp2) (f1 : Fp2 → Fp2 → Fp2) (f2 : Fp2) (f3 : Fp2 → Fp2 → Fp2) (f4 : Fp2 → Fp2 × Int) (a : Fp6) : (inv6R_T f0 f1 f2 f3 f4 a).sat fun q => q = some (inv6R_G f0 f1 f2 f3 f4 a) := ⟨fun h0 => (show some _ = some _ from congrArg some (by unfold inv6R_G; rw [h0])), fun h0 => (show some _ = some _ from congrArg some (by unfold inv6R_G; rw [h0]))⟩
def inv6R (a : Fp6) : Fp6 × Int := inv6R_G sub2R mul2R xi2R add2R inv2R a
theorem inv6R_ok : CallOk Try.prog 19 (K1 (kRow Fp6).arg ((kRow Fp6).rs2 kInt).res inv6R) :=
  P1 (En_ok (.cons sub2R_ok (.cons mul2R_ok (.cons xi2R_ok (.cons add2R_ok (.cons inv2R_ok .nil)))))) Try.func19 (bodied Try.func19 (by kernel_rfl) (by kernel_rfl)) 300 (kRow Fp6) ((kRow Fp6).rs2 kInt) inv6R (inv6R_run sub2R mul2R xi2R add2R inv2R) (inv6R_sat sub2R mul2R xi2R add2R inv2R)
def invF6_G (f0 : Fp2 → Fp2 → Fp2) (f1 : Fp2 → Fp2 → Fp2) (f2 : Fp2 → Fp2) (f3 : Fp2 → Fp2 → Fp2) (f4 : Fp2 → Fp2 × Int) (a : Fp6) : Fp6 × Int := (match ((f4 (f3 (f1 a.c0 (f0 (f1 a.c0 a.c0) (f2 (f1 a.c1 a.c2)))) (f2 (f3 (f1 a.c2 (f0 (f2 (f1 a.c2 a.c2)) (f1 a.c0 a.c1))) (f1 a.c1 (f0 (f1 a.c1 a.c1) (f1 a.c0 a.c2))))))).snd != 0) with | true => ((zeroFp6, (f4 (f3 (f1 a.c0 (f0 (f1 a.c0 a.c0) (f2 (f1 a.c1 a.c2)))) (f2 (f3 (f1 a.c2 (f0 (f2 (f1 a.c2 a.c2)) (f1 a.c0 a.c1))) (f1 a.c1 (f0 (f1 a.c1 a.c1) (f1 a.c0 a.c2))))))).snd)) | false => (({ c0 := f1 (f0 (f1 a.c0 a.c0) (f2 (f1 a.c1 a.c2))) (f4 (f3 (f1 a.c0 (f0 (f1 a.c0 a.c0) (f2 (f1 a.c1 a.c2)))) (f2 (f3 (f1 a.c2 (f0 (f2 (f1 a.c2 a.c2)) (f1 a.c0 a.c1))) (f1 a.c1 (f0 (f1 a.c1 a.c1) (f1 a.c0 a.c2))))))).fst, c1 := f1 (f0 (f2 (f1 a.c2 a.c2)) (f1 a.c0 a.c1)) (f4 (f3 (f1 a.c0 (f0 (f1 a.c0 a.c0) (f2 (f1 a.c1 a.c2)))) (f2 (f3 (f1 a.c2 (f0 (f2 (f1 a.c2 a.c2)) (f1 a.c0 a.c1))) (f1 a.c1 (f0 (f1 a.c1 a.c1) (f1 a.c0 a.c2))))))).fst, c2 := f1 (f0 (f1 a.c1 a.c1) (f1 a.c0 a.c2)) (f4 (f3 (f1 a.c0 (f0 (f1 a.c0 a.c0) (f2 (f1 a.c1 a.c2)))) (f2 (f3 (f1 a.c2 (f0 (f2 (f1 a.c2 a.c2)) (f1 a.c0 a.c1))) (f1 a.c1 (f0 (f1 a.c1 a.c1) (f1 a.c0 a.c2))))))).fst }, 0)))
def invF6_T (f0 : Fp2 → Fp2 → Fp2) (f1 : Fp2 → Fp2 → Fp2) (f2 : Fp2 → Fp2) (f3 : Fp2 → Fp2 → Fp2) (f4 : Fp2 → Fp2 × Int) (a : Fp6) : Tree (Option (Fp6 × Int)) :=
  (.br ((f4 (f3 (f1 a.c0 (f0 (f1 a.c0 a.c0) (f2 (f1 a.c1 a.c2)))) (f2 (f3 (f1 a.c2 (f0 (f2 (f1 a.c2 a.c2)) (f1 a.c0 a.c1))) (f1 a.c1 (f0 (f1 a.c1 a.c1) (f1 a.c0 a.c2))))))).snd != 0)
    (.leaf (some ((zeroFp6, (f4 (f3 (f1 a.c0 (f0 (f1 a.c0 a.c0) (f2 (f1 a.c1 a.c2)))) (f2 (f3 (f1 a.c2 (f0 (f2 (f1 a.c2 a.c2)) (f1 a.c0 a.c1))) (f1 a.c1 (f0 (f1 a.c1 a.c1) (f1 a.c0 a.c2))))))).snd))))
    (.leaf (some (({ c0 := f1 (f0 (f1 a.c0 a.c0) (f2 (f1 a.c1 a.c2))) (f4 (f3 (f1 a.c0 (f0 (f1 a.c0 a.c0) (f2 (f1 a.c1 a.c2)))) (f2 (f3 (f1 a.c2 (f0 (f2 (f1 a.c2 a.c2)) (f1 a.c0 a.c1))) (f1 a.c1 (f0 (f1 a.c1 a.c1) (f1 a.c0 a.c2))))))).fst, c1 := f1 (f0 (f2 (f1 a.c2 a.c2)) (f1 a.c0 a.c1)) (f4 (f3 (f1 a.c0 (f0 (f1 a.c0 a.c0) (f2 (f1 a.c1 a.c2)))) (f2 (f3 (f1 a.c2 (f0 (f2 (f1 a.c2 a.c2)) (f1 a.c0 a.c1))) (f1 a.c1 (f0 (f1 a.c1 a.c1) (f1 a.c0 a.c2))))))).fst, c2 := f1 (f0 (f1 a.c1 a.c1) (f1 a.c0 a.c2)) (f4 (f3 (f1 a.c0 (f0 (f1 a.c0 a.c0) (f2 (f1 a.c1 a.c2)))) (f2 (f3 (f1 a.c2 (f0 (f2 (f1 a.c2 a.c2)) (f1 a.c0 a.c1))) (f1 a.c1 (f0 (f1 a.c1 a.c1) (f1 a.c0 a.c2))))))).fst }, 0)))))
theorem invF6_run (f0 : Fp2 → Fp2 → Fp2) (f1 : Fp2 → Fp2 → Fp2) (f2 : Fp2 → Fp2) (f3 : Fp2 → Fp2 → Fp2) (f4 : Fp2 → Fp2 × Int) (a : Fp6) : plainRun (En [(38, K2 (kRow Fp2).arg (kRow Fp2).arg (kRow Fp2).rs.res f0), (30, K2 (kRow Fp2).arg (kRow Fp2).arg (kRow Fp2).rs.res f1), (66, K1 (kRow Fp2).arg (kRow Fp2).rs.res f2), (36, K2 (kRow Fp2).arg (kRow Fp2).arg (kRow Fp2).rs.res f3), (34, K1 (kRow Fp2).arg ((kRow Fp2).rs2 kInt).res f4)]) ((kRow Fp6).rs2 kInt) 300 Try.f14 [.one ((kRow Fp6).av a)] = invF6_T f0 f1 f2 f3 f4 a := by kernel_rfl
theorem invF6_sat (f0 : Fp2 → Fp2 → Fp2) (f1 : Fp2 → Fp2 → Fp2) (f2 : Fp2 → Fp2) (f3 : Fp2 → Fp2 → Fp2) (f4 : Fp2 → Fp2 × Int) (a : Fp6) : (invF6_T f0 f1 f2 f3 f4 a).sat fun q => q = some (invF6_G f0 f1 f2 f3 f4 a) := ⟨fun h0 => (show some _ = some _ from congrArg some (by unfold invF6_G; rw [h0])), fun h0 => (show some _ = some _ from congrArg some (by unfold invF6_G; rw [h0]))⟩
def invF6 (a : Fp6) : Fp6 × Int := invF6_G subF2 mulF2 upF2 addF2 invF2 a
theorem invF6_ok : CallOk Try.prog 14 (K1 (kRow Fp6).arg ((kRow Fp6).rs2 kInt).res invF6) :=
  P1 (En_ok (.cons subF2_ok (.cons mulF2_ok (.cons upF2_ok (.cons addF2_ok (.cons invF2_ok .nil)))))) Try.func14 (bodied Try.func14 (by kernel_rfl) (by kernel_rfl)) 300 (kRow Fp6) ((kRow Fp6).rs2 kInt) invF6 (invF6_run subF2 mulF2 upF2 addF2 invF2) (invF6_sat subF2 mulF2 upF2 addF2 invF2)
def may12R_G (f0 : Fp6 → Bool) (a : Fp12) : Bool := (match (f0 a.c0) with | true => ((f0 a.c1)) | false => ((false)))
def may12R_T (f0 : Fp6 → Bool) (a : Fp12) : Tree (Option (Bool)) :=
  (.br (f0 a.c0)
    (.leaf (some ((f0 a.c1))))
    (.leaf (some ((false)))))
theorem may12R_run (f0 : Fp6 → Bool) (a : Fp12) : plainRun (En [(13, K1 (kRow Fp6).arg kBool.rs.res f0)]) kBool.rs 300 Try.f46 [.one ((kRow Fp12).av a)] = may12R_T f0 a := by kernel_rfl
theorem may12R_sat (f0 : Fp6 → Bool) (a : Fp12) : (may12R_T f0 a).sat fun q => q = some (may12R_G f0 a) := ⟨fun h0 => (show some _ = some _ from congrArg some (by unfold may12R_G; rw [h0])), fun h0 => (show some _ = some _ from congrArg some (by unfold may12R_G; rw [h0]))⟩
def may12R (a : Fp12) : Bool := may12R_G may6R a
theorem may12R_ok : CallOk Try.prog 46 (K1 (kRow Fp12).arg kBool.rs.res may12R) :=
  P1 (En_ok (.cons may6R_ok .nil)) Try.func46 (bodied Try.func46 (by kernel_rfl) (by kernel_rfl)) 300 (kRow Fp12) kBool.rs may12R (may12R_run may6R) (may12R_sat may6R)
def one12R_G (f0 : Fp2) : Fp12 := ({ c0 := { c0 := f0, c1 := zeroFp2, c2 := zeroFp2 }, c1 := zeroFp6 })
def one12R_T (f0 : Fp2) : Tree (Option (Fp12)) :=
  (.leaf (some ({ c0 := { c0 := f0, c1 := zeroFp2, c2 := zeroFp2 }, c1 := zeroFp6 })))
theorem one12R_run (f0 : Fp2) : plainRun (En [(102, K0 (kRow Fp2).rs.res f0)]) (kRow Fp12).rs 300 Try.f97 [] = one12R_T f0 := by kernel_rfl
theorem one12R_sat (f0 : Fp2) : (one12R_T f0).sat fun q => q = some (one12R_G f0) := (show some _ = some _ from rfl)
def one12R  : Fp12 := one12R_G one2R 
theorem one12R_ok : CallOk Try.prog 97 (K0 (kRow Fp12).rs.res one12R) :=
  P0 (En_ok (.cons one2R_ok .nil)) Try.func97 (bodied Try.func97 (by kernel_rfl) (by kernel_rfl)) 300  (kRow Fp12).rs one12R (one12R_run one2R) (one12R_sat one2R)
def add12R_G (f0 : Fp6 → Fp6 → Fp6) (a : Fp12) (b : Fp12) : Fp12 := ({ c0 := f0 a.c0 b.c0, c1 := f0 a.c1 b.c1 })
def add12R_T (f0 : Fp6 → Fp6 → Fp6) (a : Fp12) (b : Fp12) : Tree (Option (Fp12)) :=
  (.leaf (some ({ c0 := f0 a.c0 b.c0, c1 := f0 a.c1 b.c1 })))
theorem add12R_run (f0 : Fp6 → Fp6 → Fp6) (a : Fp12) (b : Fp12) : plainRun (En [(20, K2 (kRow Fp6).arg (kRow Fp6).arg (kRow Fp6).rs.res f0)]) (kRow Fp12).rs 300 Try.f57 [.one ((kRow Fp12).av a), .one ((kRow Fp12).av b)] = add12R_T f0 a b := by kernel_rfl
theorem add12R_sat (f0 : Fp6 → Fp6 → Fp6) (a : Fp12) (b : Fp12) : (add12R_T f0 a b).sat fun q => q = some (add12R_G f0 a b) := (show some _ = some _ from rfl)
def add12R (a : Fp12) (b : Fp12) : Fp12 := add12R_G add6R a b
theorem add12R_ok : CallOk Try.prog 57 (K2 (kRow Fp12).arg (kRow Fp12).arg (kRow Fp12).rs.res add12R) :=
  P2 (En_ok (.cons add6R_ok .nil)) Try.func57 (bodied Try.func57 (by kernel_rfl) (by kernel_rfl)) 300 (kRow Fp12) (kRow Fp12) (kRow Fp12).rs add12R (add12R_run add6R) (add12R_sat add6R)
def sub12R_G (f0 : Fp6 → Fp6 → Fp6) (a : Fp12) (b : Fp12) : Fp12 := ({ c0 := f0 a.c0 b.c0, c1 := f0 a.c1 b.c1 })
def sub12R_T (f0 : Fp6 → Fp6 → Fp6) (a : Fp12) (b : Fp12) : Tree (Option (Fp12)) :=
  (.leaf (some ({ c0 := f0 a.c0 b.c0, c1 := f0 a.c1 b.c1 })))
theorem sub12R_run (f0 : Fp6 → Fp6 → Fp6) (a : Fp12) (b : Fp12) : plainRun (En [(22, K2 (kRow Fp6).arg (kRow Fp6).arg (kRow Fp6).rs.res f0)]) (kRow Fp12).rs 300 Try.f59 [.one ((kRow Fp12).av a), .one ((kRow Fp12).av b)] = sub12R_T f0 a b := by kernel_rfl
theorem sub12R_sat (f0 : Fp6 → Fp6 → Fp6) (a : Fp12) (b : Fp12) : (sub12R_T f0 a b).sat fun q => q = some (sub12R_G f0 a b) := (show some _ = some _ from rfl)
def sub12R (a : Fp12) (b : Fp12) : Fp12 := sub12R_G sub6R a b
theorem sub12R_ok : CallOk Try.prog 59 (K2 (kRow Fp12).arg (kRow Fp12).arg (kRow Fp12).rs.res sub12R) :=
  P2 (En_ok (.cons sub6R_ok .nil)) Try.func59 (bodied Try.func59 (by kernel_rfl) (by kernel_rfl)) 300 (kRow Fp12) (kRow Fp12) (kRow Fp12).rs sub12R (sub12R_run sub6R) (sub12R_sat sub6R)
def conj12R_G (f0 : Fp6 → Fp6) (a : Fp12) : Fp12 := ({ c0 := a.c0, c1 := f0 a.c1 })
def conj12R_T (f0 : Fp6 → Fp6) (a : Fp12) : Tree (Option (Fp12)) :=
  (.leaf (some ({ c0 := a.c0, c1 := f0 a.c1 })))
theorem conj12R_run (f0 : Fp6 → Fp6) (a : Fp12) : plainRun (En [(24, K1 (kRow Fp6).arg (kRow Fp6).rs.res f0)]) (kRow Fp12).rs 300 Try.f61 [.one ((kRow Fp12).av a)] = conj12R_T f0 a := by kernel_rfl
theorem conj12R_sat (f0 : Fp6 → Fp6) (a : Fp12) : (conj12R_T f0 a).sat fun q => q = some (conj12R_G f0 a) := (show some _ = some _ from rfl)
def conj12R (a : Fp12) : Fp12 := conj12R_G neg6R a
theorem conj12R_ok : CallOk Try.prog 61 (K1 (kRow Fp12).arg (kRow Fp12).rs.res conj12R) :=
  P1 (En_ok (.cons neg6R_ok .nil)) Try.func61 (bodied Try.func61 (by kernel_rfl) (by kernel_rfl)) 300 (kRow Fp12) (kRow Fp12).rs conj12R (conj12R_run neg6R) (conj12R_sat neg6R)
def mayF12_G (f0 : Fp6 → Bool) (a : Fp12) : Bool := (match (f0 a.c0) with | true => ((f0 a.c1)) | false => ((false)))
def mayF12_T (f0 : Fp6 → Bool) (a : Fp12) : Tree (Option (Bool)) :=
  (.br (f0 a.c0)
    (.leaf (some ((f0 a.c1))))
    (.leaf (some ((false)))))
theorem mayF12_run (f0 : Fp6 → Bool) (a : Fp12) : plainRun (En [(18, K1 (kRow Fp6).arg kBool.rs.res f0)]) kBool.rs 300 Try.f55 [.one ((kRow Fp12).av a)] = mayF12_T f0 a := by kernel_rfl
theorem mayF12_sat (f0 : Fp6 → Bool) (a : Fp12) : (mayF12_T f0 a).sat fun q => q = some (mayF12_G f0 a) := ⟨fun h0 => (show some _ = some _ from congrArg some (by unfold mayF12_G; rw [h0])), fun h0 => (show some _ = some _ from congrArg some (by unfold mayF12_G; rw [h0]))⟩
def mayF12 (a : Fp12) : Bool := mayF12_G mayF6 a
theorem mayF12_ok : CallOk Try.prog 55 (K1 (kRow Fp12).arg kBool.rs.res mayF12) :=
  P1 (En_ok (.cons mayF6_ok .nil)) Try.func55 (bodied Try.func55 (by kernel_rfl) (by kernel_rfl)) 300 (kRow Fp12) kBool.rs mayF12 (mayF12_run mayF6) (mayF12_sat mayF6)
def oneF12_G  : Fp12 := (oneFp12)
def oneF12_T  : Tree (Option (Fp12)) :=
  (.leaf (some (oneFp12)))
theorem oneF12_run  : plainRun (En []) (kRow Fp12).rs 300 Try.f54 [] = oneF12_T  := by kernel_rfl
theorem oneF12_sat  : (oneF12_T ).sat fun q => q = some (oneF12_G ) := (show some _ = some _ from rfl)
def oneF12  : Fp12 := oneF12_G  
theorem oneF12_ok : CallOk Try.prog 54 (K0 (kRow Fp12).rs.res oneF12) :=
  P0 (En_ok .nil) Try.func54 (bodied Try.func54 (by kernel_rfl) (by kernel_rfl)) 300  (kRow Fp12).rs oneF12 (oneF12_run ) (oneF12_sat )
def addF12_G (f0 : Fp6 → Fp6 → Fp6) (a : Fp12) (b : Fp12) : Fp12 := ({ c0 := f0 a.c0 b.c0, c1 := f0 a.c1 b.c1 })
def addF12_T (f0 : Fp6 → Fp6 → Fp6) (a : Fp12) (b : Fp12) : Tree (Option (Fp12)) :=
  (.leaf (some ({ c0 := f0 a.c0 b.c0, c1 := f0 a.c1 b.c1 })))
theorem addF12_run (f0 : Fp6 → Fp6 → Fp6) (a : Fp12) (b : Fp12) : plainRun (En [(16, K2 (kRow Fp6).arg (kRow Fp6).arg (kRow Fp6).rs.res f0)]) (kRow Fp12).rs 300 Try.f50 [.one ((kRow Fp12).av a), .one ((kRow Fp12).av b)] = addF12_T f0 a b := by kernel_rfl
theorem addF12_sat (f0 : Fp6 → Fp6 → Fp6) (a : Fp12) (b : Fp12) : (addF12_T f0 a b).sat fun q => q = some (addF12_G f0 a b) := (show some _ = some _ from rfl)
def addF12 (a : Fp12) (b : Fp12) : Fp12 := addF12_G addF6 a b
theorem addF12_ok : CallOk Try.prog 50 (K2 (kRow Fp12).arg (kRow Fp12).arg (kRow Fp12).rs.res addF12) :=
  P2 (En_ok (.cons addF6_ok .nil)) Try.func50 (bodied Try.func50 (by kernel_rfl) (by kernel_rfl)) 300 (kRow Fp12) (kRow Fp12) (kRow Fp12).rs addF12 (addF12_run addF6) (addF12_sat addF6)
def subF12_G (f0 : Fp6 → Fp6 → Fp6) (a : Fp12) (b : Fp12) : Fp12 := ({ c0 := f0 a.c0 b.c0, c1 := f0 a.c1 b.c1 })
def subF12_T (f0 : Fp6 → Fp6 → Fp6) (a : Fp12) (b : Fp12) : Tree (Option (Fp12)) :=
  (.leaf (some ({ c0 := f0 a.c0 b.c0, c1 := f0 a.c1 b.c1 })))
theorem subF12_run (f0 : Fp6 → Fp6 → Fp6) (a : Fp12) (b : Fp12) : plainRun (En [(21, K2 (kRow Fp6).arg (kRow Fp6).arg (kRow Fp6).rs.res f0)]) (kRow Fp12).rs 300 Try.f58 [.one ((kRow Fp12).av a), .one ((kRow Fp12).av b)] = subF12_T f0 a b := by kernel_rfl
theorem subF12_sat (f0 : Fp6 → Fp6 → Fp6) (a : Fp12) (b : Fp12) : (subF12_T f0 a b).sat fun q => q = some (subF12_G f0 a b) := (show some _ = some _ from rfl)
def subF12 (a : Fp12) (b : Fp12) : Fp12 := subF12_G subF6 a b
theorem subF12_ok : CallOk Try.prog 58 (K2 (kRow Fp12).arg (kRow Fp12).arg (kRow Fp12).rs.res subF12) :=
  P2 (En_ok (.cons subF6_ok .nil)) Try.func58 (bodied Try.func58 (by kernel_rfl) (by kernel_rfl)) 300 (kRow Fp12) (kRow Fp12) (kRow Fp12).rs subF12 (subF12_run subF6) (subF12_sat subF6)
def wholeF12_G (f0 : Fp6 → Fp6) (a : Fp12) : Fp12 := ({ c0 := f0 a.c0, c1 := f0 a.c1 })
def wholeF12_T (f0 : Fp6 → Fp6) (a : Fp12) : Tree (Option (Fp12)) :=
  (.leaf (some ({ c0 := f0 a.c0, c1 := f0 a.c1 })))
theorem wholeF12_run (f0 : Fp6 → Fp6) (a : Fp12) : plainRun (En [(67, K1 (kRow Fp6).arg (kRow Fp6).rs.res f0)]) (kRow Fp12).rs 300 Try.f95 [.one ((kRow Fp12).av a)] = wholeF12_T f0 a := by kernel_rfl
theorem wholeF12_sat (f0 : Fp6 → Fp6) (a : Fp12) : (wholeF12_T f0 a).sat fun q => q = some (wholeF12_G f0 a) := (show some _ = some _ from rfl)
def wholeF12 (a : Fp12) : Fp12 := wholeF12_G wholeF6 a
theorem wholeF12_ok : CallOk Try.prog 95 (K1 (kRow Fp12).arg (kRow Fp12).rs.res wholeF12) :=
  P1 (En_ok (.cons wholeF6_ok .nil)) Try.func95 (bodied Try.func95 (by kernel_rfl) (by kernel_rfl)) 300 (kRow Fp12) (kRow Fp12).rs wholeF12 (wholeF12_run wholeF6) (wholeF12_sat wholeF6)
def lowF12_G (f0 : Fp6 → Fp6) (a : Fp12) : Fp12 := ({ c0 := f0 a.c0, c1 := f0 a.c1 })
def lowF12_T (f0 : Fp6 → Fp6) (a : Fp12) : Tree (Option (Fp12)) :=
  (.leaf (some ({ c0 := f0 a.c0, c1 := f0 a.c1 })))
theorem lowF12_run (f0 : Fp6 → Fp6) (a : Fp12) : plainRun (En [(124, K1 (kRow Fp6).arg (kRow Fp6).rs.res f0)]) (kRow Fp12).rs 300 Try.f93 [.one ((kRow Fp12).av a)] = lowF12_T f0 a := by kernel_rfl
theorem lowF12_sat (f0 : Fp6 → Fp6) (a : Fp12) : (lowF12_T f0 a).sat fun q => q = some (lowF12_G f0 a) := (show some _ = some _ from rfl)
def lowF12 (a : Fp12) : Fp12 := lowF12_G lowF6 a
theorem lowF12_ok : CallOk Try.prog 93 (K1 (kRow Fp12).arg (kRow Fp12).rs.res lowF12) :=
  P1 (En_ok (.cons lowF6_ok .nil)) Try.func93 (bodied Try.func93 (by kernel_rfl) (by kernel_rfl)) 300 (kRow Fp12) (kRow Fp12).rs lowF12 (lowF12_run lowF6) (lowF12_sat lowF6)
def conjF12_G (f0 : Fp6 → Fp6) (a : Fp12) : Fp12 := ({ c0 := a.c0, c1 := f0 a.c1 })
def conjF12_T (f0 : Fp6 → Fp6) (a : Fp12) : Tree (Option (Fp12)) :=
  (.leaf (some ({ c0 := a.c0, c1 := f0 a.c1 })))
theorem conjF12_run (f0 : Fp6 → Fp6) (a : Fp12) : plainRun (En [(23, K1 (kRow Fp6).arg (kRow Fp6).rs.res f0)]) (kRow Fp12).rs 300 Try.f53 [.one ((kRow Fp12).av a)] = conjF12_T f0 a := by kernel_rfl
theorem conjF12_sat (f0 : Fp6 → Fp6) (a : Fp12) : (conjF12_T f0 a).sat fun q => q = some (conjF12_G f0 a) := (show some _ = some _ from rfl)
def conjF12 (a : Fp12) : Fp12 := conjF12_G negF6 a
theorem conjF12_ok : CallOk Try.prog 53 (K1 (kRow Fp12).arg (kRow Fp12).rs.res conjF12) :=
  P1 (En_ok (.cons negF6_ok .nil)) Try.func53 (bodied Try.func53 (by kernel_rfl) (by kernel_rfl)) 300 (kRow Fp12) (kRow Fp12).rs conjF12 (conjF12_run negF6) (conjF12_sat negF6)

end Go.Proofs.Ytehhcpopfgieeaa
