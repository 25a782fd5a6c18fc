/- Points, and points by three numbers: rows of cells. -/
import Derived.Test.YtchlamfdofpolaaFD
import Derived.Test.YtchlamfdofpolaaPa
import Derived.Test.YtchlamfdofpolaaEF
set_option linter.unusedSimpArgs false
set_option linter.unusedVariables false
namespace Go.Proofs.Ytchlamfdofpolaa
open Go.RowKit

def bitRd (xs : List Cell) : Option Bool := match xs with
  | [c] => toBool c
  | _ => none
instance bitRow : Row Bool where
  rd := bitRd
  cs := fun b => [.bool b]
  rd_ok := fun {xs x} h β => by
    unfold bitRd at h
    split at h
    · simp only [List.map_cons, List.map_nil, toBool_gc β h]; rfl
    · cases h
  cs_ok := fun x β => rfl
  cs_id := fun x c hc => by
    simp only [List.mem_cons, List.not_mem_nil, or_false] at hc
    subst hc
    rfl

/-- A point of g1. -/
structure Pg1 where
  x : Fp
  y : Fp
  inf : Bool
def Pg1.rd (xs : List Cell) : Option Pg1 := match (Row.rd (xs.take 6) : Option Fp), (Row.rd ((xs.drop 6).take 6) : Option Fp), (Row.rd ((xs.drop 6).drop 6) : Option Bool) with
  | some a, some b, some c => some ⟨a, b, c⟩
  | _, _, _ => none
instance : Row Pg1 where
  rd := Pg1.rd
  cs := fun x => Row.cs x.x ++ (Row.cs x.y ++ Row.cs x.inf)
  rd_ok := fun {xs x} h β => by
    unfold Pg1.rd at h
    split at h
    · rename_i a b c h1 h2 h3
      cases h
      exact three_rows 6 6 h1 h2 h3 β
    · cases h
  cs_ok := fun x β => by simp only [List.map_append]; rw [Row.cs_ok x.x, Row.cs_ok x.y, Row.cs_ok x.inf]
  cs_id := fun x c hc => by
    rcases List.mem_append.1 hc with h | h
    · exact Row.cs_id _ c h
    · rcases List.mem_append.1 h with h | h
      · exact Row.cs_id _ c h
      · exact Row.cs_id _ c h
def infG1 : Pg1 := ⟨zeroFp, zeroFp, true⟩
def pg1Eq (a b : Pg1) : Bool := fpEq a.x b.x && (fpEq a.y b.y && ((a.inf == b.inf) && true))
theorem pg1Eq_iff (a b : Pg1) : pg1Eq a b = true ↔ a = b := by
  unfold pg1Eq
  rw [Bool.and_true, Bool.and_eq_true, Bool.and_eq_true, fpEq_iff, fpEq_iff, beq_iff_eq]
  cases a; cases b
  simp

/-- A point of g2. -/
structure Pg2 where
  x : Fp2
  y : Fp2
  inf : Bool
def Pg2.rd (xs : List Cell) : Option Pg2 := match (Row.rd (xs.take 12) : Option Fp2), (Row.rd ((xs.drop 12).take 12) : Option Fp2), (Row.rd ((xs.drop 12).drop 12) : Option Bool) with
  | some a, some b, some c => some ⟨a, b, c⟩
  | _, _, _ => none
instance : Row Pg2 where
  rd := Pg2.rd
  cs := fun x => Row.cs x.x ++ (Row.cs x.y ++ Row.cs x.inf)
  rd_ok := fun {xs x} h β => by
    unfold Pg2.rd at h
    split at h
    · rename_i a b c h1 h2 h3
      cases h
      exact three_rows 12 12 h1 h2 h3 β
    · cases h
  cs_ok := fun x β => by simp only [List.map_append]; rw [Row.cs_ok x.x, Row.cs_ok x.y, Row.cs_ok x.inf]
  cs_id := fun x c hc => by
    rcases List.mem_append.1 hc with h | h
    · exact Row.cs_id _ c h
    · rcases List.mem_append.1 h with h | h
      · exact Row.cs_id _ c h
      · exact Row.cs_id _ c h
def infG2 : Pg2 := ⟨zeroFp2, zeroFp2, true⟩
def pg2Eq (a b : Pg2) : Bool := fp2Eq a.x b.x && (fp2Eq a.y b.y && ((a.inf == b.inf) && true))
theorem pg2Eq_iff (a b : Pg2) : pg2Eq a b = true ↔ a = b := by
  unfold pg2Eq
  rw [Bool.and_true, Bool.and_eq_true, Bool.and_eq_true, fp2Eq_iff, fp2Eq_iff, beq_iff_eq]
  cases a; cases b
  simp

/-- Three numbers. (Three pairs are an Fp6.) -/
structure Sp1 where
  x : Fp
  y : Fp
  z : Fp
def Sp1.rd (xs : List Cell) : Option Sp1 := match (Row.rd (xs.take 6) : Option Fp), (Row.rd ((xs.drop 6).take 6) : Option Fp), (Row.rd ((xs.drop 6).drop 6) : Option Fp) with
  | some a, some b, some c => some ⟨a, b, c⟩
  | _, _, _ => none
instance : Row Sp1 where
  rd := Sp1.rd
  cs := fun x => Row.cs x.x ++ (Row.cs x.y ++ Row.cs x.z)
  rd_ok := fun {xs x} h β => by
    unfold Sp1.rd at h
    split at h
    · rename_i a b c h1 h2 h3
      cases h
      exact three_rows 6 6 h1 h2 h3 β
    · cases h
  cs_ok := fun x β => by simp only [List.map_append]; rw [Row.cs_ok x.x, Row.cs_ok x.y, Row.cs_ok x.z]
  cs_id := fun x c hc => by
    rcases List.mem_append.1 hc with h | h
    · exact Row.cs_id _ c h
    · rcases List.mem_append.1 h with h | h
      · exact Row.cs_id _ c h
      · exact Row.cs_id _ c h
def zeroSp : Sp1 := ⟨zeroFp, zeroFp, zeroFp⟩

end Go.Proofs.Ytchlamfdofpolaa
