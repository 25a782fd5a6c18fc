/- Pairs of numbers: rows of twelve cells. -/
import Derived.Test.YtchlamfdofpolaaFA
set_option linter.unusedSimpArgs false
set_option linter.unusedVariables false
namespace Go.Proofs.Ytchlamfdofpolaa
open Go.RowKit

def zeroFp2 : Fp2 := ⟨zeroFp, zeroFp⟩
def oneFp2 : Fp2 := ⟨oneFp, zeroFp⟩
def uFp2 : Fp2 := ⟨zeroFp, oneFp⟩
def xiFp2 : Fp2 := ⟨oneFp, oneFp⟩
abbrev rF2 : Rs Fp2 := (kRow Fp2).rs
abbrev vF2 (a : Fp2) : AV := .one ((kRow Fp2).av a)
abbrev Kp1 (F : Fp2 → Fp2) : Contract := K1 (kRow Fp2).arg rF2.res F
abbrev Kp2 (F : Fp2 → Fp2 → Fp2) : Contract := K2 (kRow Fp2).arg (kRow Fp2).arg rF2.res F
abbrev Kpb (F : Fp2 → Bool) : Contract := K1 (kRow Fp2).arg kBool.rs.res F
def fp2Eq (a b : Fp2) : Bool := fpEq a.c0 b.c0 && (fpEq a.c1 b.c1 && true)
theorem fp2Eq_iff (a b : Fp2) : fp2Eq a b = true ↔ a = b := by
  unfold fp2Eq
  rw [Bool.and_true, Bool.and_eq_true, fpEq_iff, fpEq_iff]
  cases a; cases b
  simp

def zeroFp6 : Fp6 := ⟨zeroFp2, zeroFp2, zeroFp2⟩
def oneFp6 : Fp6 := ⟨oneFp2, zeroFp2, zeroFp2⟩
def vFp6 : Fp6 := ⟨zeroFp2, oneFp2, zeroFp2⟩
structure Fp12 where
  c0 : Fp6
  c1 : Fp6
def Fp12.rd (xs : List Cell) : Option Fp12 := match (Row.rd (xs.take 36) : Option Fp6), (Row.rd (xs.drop 36) : Option Fp6) with
  | some a, some b => some ⟨a, b⟩
  | _, _ => none
instance : Row Fp12 where
  rd := Fp12.rd
  cs := fun x => Row.cs x.c0 ++ Row.cs x.c1
  rd_ok := fun {xs x} h β => by
    unfold Fp12.rd at h
    split at h
    · rename_i a b h1 h2
      cases h
      exact two_rows 36 h1 h2 β
    · cases h
  cs_ok := fun x β => by rw [List.map_append, List.map_append, Row.cs_ok x.c0, Row.cs_ok x.c1]
  cs_id := fun x c hc => by
    rcases List.mem_append.1 hc with h | h
    · exact Row.cs_id _ c h
    · exact Row.cs_id _ c h
def zeroFp12 : Fp12 := ⟨zeroFp6, zeroFp6⟩
def oneFp12 : Fp12 := ⟨oneFp6, zeroFp6⟩
def wFp12 : Fp12 := ⟨zeroFp6, oneFp6⟩
def vFp12 : Fp12 := ⟨vFp6, zeroFp6⟩
def fp6Eq (a b : Fp6) : Bool := fp2Eq a.c0 b.c0 && (fp2Eq a.c1 b.c1 && (fp2Eq a.c2 b.c2 && true))
theorem fp6Eq_iff (a b : Fp6) : fp6Eq a b = true ↔ a = b := by
  unfold fp6Eq
  rw [Bool.and_true, Bool.and_eq_true, Bool.and_eq_true, fp2Eq_iff, fp2Eq_iff, fp2Eq_iff]
  cases a; cases b
  simp
def fp12Eq (a b : Fp12) : Bool := fp6Eq a.c0 b.c0 && (fp6Eq a.c1 b.c1 && true)
theorem fp12Eq_iff (a b : Fp12) : fp12Eq a b = true ↔ a = b := by
  unfold fp12Eq
  rw [Bool.and_true, Bool.and_eq_true, fp6Eq_iff, fp6Eq_iff]
  cases a; cases b
  simp

end Go.Proofs.Ytchlamfdofpolaa
