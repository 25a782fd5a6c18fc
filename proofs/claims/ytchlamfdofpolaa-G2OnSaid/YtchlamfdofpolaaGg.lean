/- How points are read as arguments. -/
import Derived.Test.YtchlamfdofpolaaGe
set_option linter.unusedSimpArgs false
set_option linter.unusedVariables false
set_option maxRecDepth 100000
namespace Go.Proofs.Ytchlamfdofpolaa
open Go.ChangeShapes Go.WideShapes Go.ChangeAt Go.RowKit

theorem pg1_cells (cl : List Cell) (hl : cl.length = 13) (h : ∀ (i : Nat) (c : Cell) (k : CK), cl[i]? = some c → (List.replicate 12 CK.u64 ++ [CK.bool])[i]? = some k → k.has c) : ∃ a : Pg1, cl = Row.cs a := by
  match cl, hl with
  | [c0, c1, c2, c3, c4, c5, c6, c7, c8, c9, c10, c11, c12], _ =>
    obtain ⟨x0, rfl⟩ := h 0 c0 .u64 rfl rfl
    obtain ⟨x1, rfl⟩ := h 1 c1 .u64 rfl rfl
    obtain ⟨x2, rfl⟩ := h 2 c2 .u64 rfl rfl
    obtain ⟨x3, rfl⟩ := h 3 c3 .u64 rfl rfl
    obtain ⟨x4, rfl⟩ := h 4 c4 .u64 rfl rfl
    obtain ⟨x5, rfl⟩ := h 5 c5 .u64 rfl rfl
    obtain ⟨x6, rfl⟩ := h 6 c6 .u64 rfl rfl
    obtain ⟨x7, rfl⟩ := h 7 c7 .u64 rfl rfl
    obtain ⟨x8, rfl⟩ := h 8 c8 .u64 rfl rfl
    obtain ⟨x9, rfl⟩ := h 9 c9 .u64 rfl rfl
    obtain ⟨x10, rfl⟩ := h 10 c10 .u64 rfl rfl
    obtain ⟨x11, rfl⟩ := h 11 c11 .u64 rfl rfl
    obtain ⟨b, rfl⟩ := h 12 c12 .bool rfl rfl
    exact ⟨⟨⟨x0, x1, x2, x3, x4, x5⟩, ⟨x6, x7, x8, x9, x10, x11⟩, b⟩, rfl⟩
theorem pg1_arg {W : World} {base : Nat} {v : Value} (h : Value.okWide Try.prog W .any base 30 v) : ∃ a : Pg1, v = rowV a := by
  obtain ⟨cl, rfl, hl, hh⟩ := row_of_ok (List.replicate 12 .u64 ++ [.bool]) (ts := List.replicate 12 22 ++ [4]) (by kernel_rfl) (by kernel_rfl) (by kernel_rfl) (by kernel_rfl) h
  obtain ⟨a, rfl⟩ := pg1_cells cl hl hh
  exact ⟨a, rfl⟩
theorem pg2_cells (cl : List Cell) (hl : cl.length = 25) (h : ∀ (i : Nat) (c : Cell) (k : CK), cl[i]? = some c → (List.replicate 24 CK.u64 ++ [CK.bool])[i]? = some k → k.has c) : ∃ a : Pg2, cl = Row.cs a := by
  match cl, hl with
  | [c0, c1, c2, c3, c4, c5, c6, c7, c8, c9, c10, c11, c12, c13, c14, c15, c16, c17, c18, c19, c20, c21, c22, c23, c24], _ =>
    obtain ⟨x0, rfl⟩ := h 0 c0 .u64 rfl rfl
    obtain ⟨x1, rfl⟩ := h 1 c1 .u64 rfl rfl
    obtain ⟨x2, rfl⟩ := h 2 c2 .u64 rfl rfl
    obtain ⟨x3, rfl⟩ := h 3 c3 .u64 rfl rfl
    obtain ⟨x4, rfl⟩ := h 4 c4 .u64 rfl rfl
    obtain ⟨x5, rfl⟩ := h 5 c5 .u64 rfl rfl
    obtain ⟨x6, rfl⟩ := h 6 c6 .u64 rfl rfl
    obtain ⟨x7, rfl⟩ := h 7 c7 .u64 rfl rfl
    obtain ⟨x8, rfl⟩ := h 8 c8 .u64 rfl rfl
    obtain ⟨x9, rfl⟩ := h 9 c9 .u64 rfl rfl
    obtain ⟨x10, rfl⟩ := h 10 c10 .u64 rfl rfl
    obtain ⟨x11, rfl⟩ := h 11 c11 .u64 rfl rfl
    obtain ⟨x12, rfl⟩ := h 12 c12 .u64 rfl rfl
    obtain ⟨x13, rfl⟩ := h 13 c13 .u64 rfl rfl
    obtain ⟨x14, rfl⟩ := h 14 c14 .u64 rfl rfl
    obtain ⟨x15, rfl⟩ := h 15 c15 .u64 rfl rfl
    obtain ⟨x16, rfl⟩ := h 16 c16 .u64 rfl rfl
    obtain ⟨x17, rfl⟩ := h 17 c17 .u64 rfl rfl
    obtain ⟨x18, rfl⟩ := h 18 c18 .u64 rfl rfl
    obtain ⟨x19, rfl⟩ := h 19 c19 .u64 rfl rfl
    obtain ⟨x20, rfl⟩ := h 20 c20 .u64 rfl rfl
    obtain ⟨x21, rfl⟩ := h 21 c21 .u64 rfl rfl
    obtain ⟨x22, rfl⟩ := h 22 c22 .u64 rfl rfl
    obtain ⟨x23, rfl⟩ := h 23 c23 .u64 rfl rfl
    obtain ⟨b, rfl⟩ := h 24 c24 .bool rfl rfl
    exact ⟨⟨⟨⟨x0, x1, x2, x3, x4, x5⟩, ⟨x6, x7, x8, x9, x10, x11⟩⟩, ⟨⟨x12, x13, x14, x15, x16, x17⟩, ⟨x18, x19, x20, x21, x22, x23⟩⟩, b⟩, rfl⟩
theorem pg2_arg {W : World} {base : Nat} {v : Value} (h : Value.okWide Try.prog W .any base 54 v) : ∃ a : Pg2, v = rowV a := by
  obtain ⟨cl, rfl, hl, hh⟩ := row_of_ok (List.replicate 24 .u64 ++ [.bool]) (ts := List.replicate 24 22 ++ [4]) (by kernel_rfl) (by kernel_rfl) (by kernel_rfl) (by kernel_rfl) h
  obtain ⟨a, rfl⟩ := pg2_cells cl hl hh
  exact ⟨a, rfl⟩

end Go.Proofs.Ytchlamfdofpolaa
