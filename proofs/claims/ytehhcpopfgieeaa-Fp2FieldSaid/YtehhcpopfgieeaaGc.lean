/- How arguments of the towers are read. -/
import Derived.Test.YtehhcpopfgieeaaGA
import Derived.Test.YtehhcpopfgieeaaPa
import Derived.Test.YtehhcpopfgieeaaEF
set_option linter.unusedSimpArgs false
set_option linter.unusedVariables false
namespace Go.Proofs.Ytehhcpopfgieeaa
open Go.ChangeShapes Go.WideShapes Go.ChangeAt Go.RowKit

def allU (cl : List Cell) : Prop := ∀ c ∈ cl, ∃ x, c = .u64 x
theorem allU_of {n : Nat} {cl : List Cell} (hl : cl.length = (List.replicate n CK.u64).length) (h : ∀ (i : Nat) (c : Cell) (k : CK), cl[i]? = some c → (List.replicate n CK.u64)[i]? = some k → k.has c) : allU cl := fun c hc => by
  obtain ⟨i, hi, he⟩ := List.getElem_of_mem hc
  rw [List.length_replicate] at hl
  exact h i c .u64 (by rw [List.getElem?_eq_getElem hi, he]) (by rw [List.getElem?_replicate, if_pos (by omega)])
theorem allU_take {cl : List Cell} (h : allU cl) (n : Nat) : allU (cl.take n) := fun c hc => h c (List.mem_of_mem_take hc)
theorem allU_drop {cl : List Cell} (h : allU cl) (n : Nat) : allU (cl.drop n) := fun c hc => h c (List.mem_of_mem_drop hc)
theorem fp_of (cl : List Cell) (hl : cl.length = 6) (h : allU cl) : ∃ a : Fp, cl = Row.cs a := by
  match cl, hl with
  | [c0, c1, c2, c3, c4, c5], _ =>
    obtain ⟨x0, rfl⟩ := h c0 (by simp)
    obtain ⟨x1, rfl⟩ := h c1 (by simp)
    obtain ⟨x2, rfl⟩ := h c2 (by simp)
    obtain ⟨x3, rfl⟩ := h c3 (by simp)
    obtain ⟨x4, rfl⟩ := h c4 (by simp)
    obtain ⟨x5, rfl⟩ := h c5 (by simp)
    exact ⟨⟨x0, x1, x2, x3, x4, x5⟩, rfl⟩
theorem fp2_of (cl : List Cell) (hl : cl.length = 12) (h : allU cl) : ∃ a : Fp2, cl = Row.cs a := by
  obtain ⟨a, ha⟩ := fp_of (cl.take 6) (by rw [List.length_take]; omega) (allU_take h 6)
  obtain ⟨b, hb⟩ := fp_of (cl.drop 6) (by rw [List.length_drop]; omega) (allU_drop h 6)
  exact ⟨⟨a, b⟩, by rw [← List.take_append_drop 6 cl, ha, hb]; rfl⟩
theorem fp6_of (cl : List Cell) (hl : cl.length = 36) (h : allU cl) : ∃ a : Fp6, cl = Row.cs a := by
  obtain ⟨a, ha⟩ := fp2_of (cl.take 12) (by rw [List.length_take]; omega) (allU_take h 12)
  obtain ⟨b, hb⟩ := fp2_of ((cl.drop 12).take 12) (by rw [List.length_take, List.length_drop]; omega) (allU_take (allU_drop h 12) 12)
  obtain ⟨c, hc⟩ := fp2_of ((cl.drop 12).drop 12) (by rw [List.length_drop, List.length_drop]; omega) (allU_drop (allU_drop h 12) 12)
  exact ⟨⟨a, b, c⟩, by rw [← List.take_append_drop 12 cl, ha, ← List.take_append_drop 12 (cl.drop 12), hb, hc]; rfl⟩
theorem fp12_of (cl : List Cell) (hl : cl.length = 72) (h : allU cl) : ∃ a : Fp12, cl = Row.cs a := by
  obtain ⟨a, ha⟩ := fp6_of (cl.take 36) (by rw [List.length_take]; omega) (allU_take h 36)
  obtain ⟨b, hb⟩ := fp6_of (cl.drop 36) (by rw [List.length_drop]; omega) (allU_drop h 36)
  exact ⟨⟨a, b⟩, by rw [← List.take_append_drop 36 cl, ha, hb]; rfl⟩
theorem fp2_arg {W : World} {base : Nat} {v : Value} (h : Value.okWide Try.prog W .any base 26 v) : ∃ a : Fp2, v = rowV a := by
  obtain ⟨cl, rfl, hl, hh⟩ := row_of_ok (List.replicate 12 .u64) (ts := List.replicate 12 22) (by kernel_rfl) (by kernel_rfl) (by kernel_rfl) (by kernel_rfl) h
  obtain ⟨a, rfl⟩ := fp2_of cl (by rw [hl, List.length_replicate]) (allU_of hl hh)
  exact ⟨a, rfl⟩
theorem fp6_arg {W : World} {base : Nat} {v : Value} (h : Value.okWide Try.prog W .any base 28 v) : ∃ a : Fp6, v = rowV a := by
  obtain ⟨cl, rfl, hl, hh⟩ := row_of_ok (List.replicate 36 .u64) (ts := List.replicate 36 22) (by kernel_rfl) (by kernel_rfl) (by kernel_rfl) (by kernel_rfl) h
  obtain ⟨a, rfl⟩ := fp6_of cl (by rw [hl, List.length_replicate]) (allU_of hl hh)
  exact ⟨a, rfl⟩
theorem fp12_arg {W : World} {base : Nat} {v : Value} (h : Value.okWide Try.prog W .any base 48 v) : ∃ a : Fp12, v = rowV a := by
  obtain ⟨cl, rfl, hl, hh⟩ := row_of_ok (List.replicate 72 .u64) (ts := List.replicate 72 22) (by kernel_rfl) (by kernel_rfl) (by kernel_rfl) (by kernel_rfl) h
  obtain ⟨a, rfl⟩ := fp12_of cl (by rw [hl, List.length_replicate]) (allU_of hl hh)
  exact ⟨a, rfl⟩

end Go.Proofs.Ytehhcpopfgieeaa
