/- How scalars and points are read as arguments. -/
import Derived.Test.YtchlamfdofpolaaGA
import Derived.Test.YtchlamfdofpolaaQa
set_option linter.unusedSimpArgs false
set_option linter.unusedVariables false
set_option maxRecDepth 100000
namespace Go.Proofs.Ytchlamfdofpolaa
open Go.ChangeShapes Go.WideShapes Go.ChangeAt Go.RowKit

theorem fr_cells (cl : List Cell) (hl : cl.length = 4) (h : ∀ (i : Nat) (c : Cell) (k : CK), cl[i]? = some c → (List.replicate 4 CK.u64)[i]? = some k → k.has c) : ∃ a : Fr, cl = Row.cs a := by
  match cl, hl with
  | [c0, c1, c2, c3], _ =>
    obtain ⟨x0, rfl⟩ := h 0 c0 .u64 rfl rfl
    obtain ⟨x1, rfl⟩ := h 1 c1 .u64 rfl rfl
    obtain ⟨x2, rfl⟩ := h 2 c2 .u64 rfl rfl
    obtain ⟨x3, rfl⟩ := h 3 c3 .u64 rfl rfl
    exact ⟨⟨x0, x1, x2, x3⟩, rfl⟩
theorem fr_arg {W : World} {base : Nat} {v : Value} (h : Value.okWide Try.prog W .any base 24 v) : ∃ a : Fr, v = rowV a := by
  obtain ⟨cl, rfl, hl, hh⟩ := row_of_ok (List.replicate 4 .u64) (ts := List.replicate 4 22) (by kernel_rfl) (by kernel_rfl) (by kernel_rfl) (by kernel_rfl) h
  obtain ⟨a, rfl⟩ := fr_cells cl hl hh
  exact ⟨a, rfl⟩

end Go.Proofs.Ytchlamfdofpolaa
