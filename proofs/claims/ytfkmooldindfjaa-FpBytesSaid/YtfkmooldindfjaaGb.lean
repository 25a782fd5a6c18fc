/- How arguments of the base field are read. -/
import Derived.Test.YtfkmooldindfjaaGA
import Derived.Test.YtfkmooldindfjaaMj
set_option linter.unusedSimpArgs false
set_option linter.unusedVariables false
namespace Go.Proofs.Ytfkmooldindfjaa
open Go.ChangeShapes Go.WideShapes Go.ChangeAt Go.RowKit

theorem fp_cells (cl : List Cell) (hl : cl.length = 6) (h : ∀ (i : Nat) (c : Cell) (k : CK), cl[i]? = some c → (List.replicate 6 CK.u64)[i]? = some k → k.has c) : ∃ a : Fp, cl = Row.cs a := by
  match cl, hl with
  | [c0, c1, c2, c3, c4, c5], _ =>
    obtain ⟨x0, rfl⟩ := h 0 c0 .u64 rfl rfl
    obtain ⟨x1, rfl⟩ := h 1 c1 .u64 rfl rfl
    obtain ⟨x2, rfl⟩ := h 2 c2 .u64 rfl rfl
    obtain ⟨x3, rfl⟩ := h 3 c3 .u64 rfl rfl
    obtain ⟨x4, rfl⟩ := h 4 c4 .u64 rfl rfl
    obtain ⟨x5, rfl⟩ := h 5 c5 .u64 rfl rfl
    exact ⟨⟨x0, x1, x2, x3, x4, x5⟩, rfl⟩

theorem fp_arg {W : World} {base : Nat} {v : Value} (h : Value.okWide Try.prog W .any base 24 v) : ∃ a : Fp, v = rowV a := by
  obtain ⟨cl, rfl, hl, hh⟩ := row_of_ok (List.replicate 6 .u64) (ts := List.replicate 6 22) (by kernel_rfl) (by kernel_rfl) (by kernel_rfl) (by kernel_rfl) h
  obtain ⟨a, rfl⟩ := fp_cells cl hl hh
  exact ⟨a, rfl⟩

theorem begun_ok' : CallOk Try.prog 9 (Kb true) := begun_ok begun_law

end Go.Proofs.Ytfkmooldindfjaa
