/-
  No cell of these rows narrows 'for every input' (looked for: loops, veiled, ifaces, maps, wideKeys, modest, calm, conditions, laid).
  DERIVED. THE GIVEN ROWS OF THIS SEAT. 7 by the template 'for every input the law returns true; each argument reads behind the call as it read before'; 0 by the template 'total and deterministic' (their statements: YtibfppbffdedoaaTotals.lean).
  GIVEN WITH THE SEED: the statements are not yours to turn. If you find one false, say at which input.
  Laid BY PROGRAM, IN A SANDBOX (cutbox-rows.mjs): the forced cells as the released guide's own fill.sh prints them over the translation e7dbb59c7ad8998d… (all of the seat's roots in one cut). By AI agents, Wed Nov 11 2026. No macro, syntax, notation, axiom, sorry.
-/
import Derived.Test.YtibfppbffdedoaaChecked
import GoSem.Claim
import GoSem.ClaimJoined
import GoSem.ClaimMapViews
import Derived.JoinedTies
import Derived.KernelRfl
namespace Go.Proofs.Ytibfppbffdedoaa
/- THE CELL 'sum', in the pinned program and in every row, IS THE sha256 OF THE DUMP (.gsa) THAT YtibfppbffdedoaaProg.lean LOADS. Nothing in Lean hashes anything: it is a label: what it is worth is what the hold of that sum in a sandbox is worth. -/
noncomputable def Try.pinned : Pinned := { name := "ytibfppbffdedoaa", sum := "e7dbb59c7ad8998d2980c19a928f0b43108217fd2e415e7daed39d560889e8b7", checked := Try.checked }
namespace Rows
def none {H : Type} : Left H := { results := [], args := [] }

/-- 'intagliolaw8.G1All': WHATEVER THE INPUT: true; the input reads as it did. -/
def g1AllSpec : ChangeSpec := { name := "g1All", fn := fun _ => fun
  | [d1, d2, d3, d4, d5, d6] => { results := [.lit (.bool true)], args := [d1, d2, d3, d4, d5, d6] }
  | _ => none }
def g1AllRow : OpenClaim := { program := "ytibfppbffdedoaa", sum := "e7dbb59c7ad8998d2980c19a928f0b43108217fd2e415e7daed39d560889e8b7", func := "intaglio/intagliolaw8.G1All", spec := "g1All", inPlace := ["math/bits.Add64", "math/bits.Sub64"], apart := false }
def G1AllSaid : Prop := g1AllRow.holds Try.pinned (OpenSpec.ofChange g1AllSpec)

/-- ITS FALSE NEIGHBOUR: 'it returns false'. Refute it at one input. -/
def g1AllWrong : ChangeSpec := { name := "g1All", fn := fun _ => fun
  | [d1, d2, d3, d4, d5, d6] => { results := [.lit (.bool false)], args := [d1, d2, d3, d4, d5, d6] }
  | _ => none }
def G1AllWrongFalsely : Prop := g1AllRow.holds Try.pinned (OpenSpec.ofChange g1AllWrong)

/-- 'intagliolaw8.G1Out': WHATEVER THE INPUT: true; the input reads as it did. -/
def g1OutSpec : ChangeSpec := { name := "g1Out", fn := fun _ => fun
  | [d1, d2, d3] => { results := [.lit (.bool true)], args := [d1, d2, d3] }
  | _ => none }
def g1OutRow : OpenClaim := { program := "ytibfppbffdedoaa", sum := "e7dbb59c7ad8998d2980c19a928f0b43108217fd2e415e7daed39d560889e8b7", func := "intaglio/intagliolaw8.G1Out", spec := "g1Out", inPlace := ["math/bits.Add64", "math/bits.Sub64"], apart := false }
def G1OutSaid : Prop := g1OutRow.holds Try.pinned (OpenSpec.ofChange g1OutSpec)

/-- ITS FALSE NEIGHBOUR: 'it returns false'. Refute it at one input. -/
def g1OutWrong : ChangeSpec := { name := "g1Out", fn := fun _ => fun
  | [d1, d2, d3] => { results := [.lit (.bool false)], args := [d1, d2, d3] }
  | _ => none }
def G1OutWrongFalsely : Prop := g1OutRow.holds Try.pinned (OpenSpec.ofChange g1OutWrong)

/-- 'intagliolaw9.G2All': WHATEVER THE INPUT: true; the input reads as it did. -/
def g2AllSpec : ChangeSpec := { name := "g2All", fn := fun _ => fun
  | [d1, d2, d3, d4, d5, d6] => { results := [.lit (.bool true)], args := [d1, d2, d3, d4, d5, d6] }
  | _ => none }
def g2AllRow : OpenClaim := { program := "ytibfppbffdedoaa", sum := "e7dbb59c7ad8998d2980c19a928f0b43108217fd2e415e7daed39d560889e8b7", func := "intaglio/intagliolaw9.G2All", spec := "g2All", inPlace := ["math/bits.Add64", "math/bits.Sub64"], apart := false }
def G2AllSaid : Prop := g2AllRow.holds Try.pinned (OpenSpec.ofChange g2AllSpec)

/-- ITS FALSE NEIGHBOUR: 'it returns false'. Refute it at one input. -/
def g2AllWrong : ChangeSpec := { name := "g2All", fn := fun _ => fun
  | [d1, d2, d3, d4, d5, d6] => { results := [.lit (.bool false)], args := [d1, d2, d3, d4, d5, d6] }
  | _ => none }
def G2AllWrongFalsely : Prop := g2AllRow.holds Try.pinned (OpenSpec.ofChange g2AllWrong)

/-- 'intagliolaw9.G2Out': WHATEVER THE INPUT: true; the input reads as it did. -/
def g2OutSpec : ChangeSpec := { name := "g2Out", fn := fun _ => fun
  | [d1, d2, d3] => { results := [.lit (.bool true)], args := [d1, d2, d3] }
  | _ => none }
def g2OutRow : OpenClaim := { program := "ytibfppbffdedoaa", sum := "e7dbb59c7ad8998d2980c19a928f0b43108217fd2e415e7daed39d560889e8b7", func := "intaglio/intagliolaw9.G2Out", spec := "g2Out", inPlace := ["math/bits.Add64", "math/bits.Sub64"], apart := false }
def G2OutSaid : Prop := g2OutRow.holds Try.pinned (OpenSpec.ofChange g2OutSpec)

/-- ITS FALSE NEIGHBOUR: 'it returns false'. Refute it at one input. -/
def g2OutWrong : ChangeSpec := { name := "g2Out", fn := fun _ => fun
  | [d1, d2, d3] => { results := [.lit (.bool false)], args := [d1, d2, d3] }
  | _ => none }
def G2OutWrongFalsely : Prop := g2OutRow.holds Try.pinned (OpenSpec.ofChange g2OutWrong)

/-- 'intagliolaw9.G2Sums': WHATEVER THE INPUT: true; the input reads as it did. -/
def g2SumsSpec : ChangeSpec := { name := "g2Sums", fn := fun _ => fun
  | [d1, d2] => { results := [.lit (.bool true)], args := [d1, d2] }
  | _ => none }
def g2SumsRow : OpenClaim := { program := "ytibfppbffdedoaa", sum := "e7dbb59c7ad8998d2980c19a928f0b43108217fd2e415e7daed39d560889e8b7", func := "intaglio/intagliolaw9.G2Sums", spec := "g2Sums", inPlace := ["math/bits.Add64", "math/bits.Sub64"], apart := false }
def G2SumsSaid : Prop := g2SumsRow.holds Try.pinned (OpenSpec.ofChange g2SumsSpec)

/-- ITS FALSE NEIGHBOUR: 'it returns false'. Refute it at one input. -/
def g2SumsWrong : ChangeSpec := { name := "g2Sums", fn := fun _ => fun
  | [d1, d2] => { results := [.lit (.bool false)], args := [d1, d2] }
  | _ => none }
def G2SumsWrongFalsely : Prop := g2SumsRow.holds Try.pinned (OpenSpec.ofChange g2SumsWrong)

/-- 'intagliolaw19.BatchFolds': WHATEVER THE INPUT: true; the input reads as it did. -/
def batchFoldsSpec : ChangeSpec := { name := "batchFolds", fn := fun _ => fun
  | [d1, d2, d3] => { results := [.lit (.bool true)], args := [d1, d2, d3] }
  | _ => none }
def batchFoldsRow : OpenClaim := { program := "ytibfppbffdedoaa", sum := "e7dbb59c7ad8998d2980c19a928f0b43108217fd2e415e7daed39d560889e8b7", func := "intaglio/intagliolaw19.BatchFolds", spec := "batchFolds", inPlace := ["math/bits.Add64", "math/bits.Sub64"], unfollowed := true, recurses := true, apart := false }
def BatchFoldsSaid : Prop := batchFoldsRow.holds Try.pinned (OpenSpec.ofChange batchFoldsSpec)

/-- ITS FALSE NEIGHBOUR: 'it returns false'. Refute it at one input. -/
def batchFoldsWrong : ChangeSpec := { name := "batchFolds", fn := fun _ => fun
  | [d1, d2, d3] => { results := [.lit (.bool false)], args := [d1, d2, d3] }
  | _ => none }
def BatchFoldsWrongFalsely : Prop := batchFoldsRow.holds Try.pinned (OpenSpec.ofChange batchFoldsWrong)

/-- 'intagliolaw19.BatchSides': WHATEVER THE INPUT: true; the input reads as it did. -/
def batchSidesSpec : ChangeSpec := { name := "batchSides", fn := fun _ => fun
  | [d1, d2, d3, d4, d5, d6, d7, d8, d9] => { results := [.lit (.bool true)], args := [d1, d2, d3, d4, d5, d6, d7, d8, d9] }
  | _ => none }
def batchSidesRow : OpenClaim := { program := "ytibfppbffdedoaa", sum := "e7dbb59c7ad8998d2980c19a928f0b43108217fd2e415e7daed39d560889e8b7", func := "intaglio/intagliolaw19.BatchSides", spec := "batchSides", inPlace := ["math/bits.Add64", "math/bits.Sub64"], unfollowed := true, recurses := true, apart := false }
def BatchSidesSaid : Prop := batchSidesRow.holds Try.pinned (OpenSpec.ofChange batchSidesSpec)

/-- ITS FALSE NEIGHBOUR: 'it returns false'. Refute it at one input. -/
def batchSidesWrong : ChangeSpec := { name := "batchSides", fn := fun _ => fun
  | [d1, d2, d3, d4, d5, d6, d7, d8, d9] => { results := [.lit (.bool false)], args := [d1, d2, d3, d4, d5, d6, d7, d8, d9] }
  | _ => none }
def BatchSidesWrongFalsely : Prop := batchSidesRow.holds Try.pinned (OpenSpec.ofChange batchSidesWrong)

/- THE SECOND FORM. 'bulk': how many values and letters a reading holds, each counted each time it is reached (what is shared counts as often as it is met; a slice's spare places count too). A statement '..UptoSaid' is the law's where the arguments, and the package variables that the reading takes, are together of bulk at most 1048576: NARROWER than '..Said'. Prove '..Said' where nothing that the law and all that it calls make is longer than what came in: it says more and counts as full. Else prove '..UptoSaid'. A law counts once. -/
mutual
def uptoBulk {H : Type} : DataW H → Nat
  | .lit (.string bytes) => bytes.length + 1
  | .lit _ => 1
  | .nil => 1
  | .ptr d => uptoBulk d + 1
  | .slice elems spare => uptoBulkAll elems + uptoBulkAll spare + 1
  | .agg parts => uptoBulkAll parts + 1
  | .iface _ d => uptoBulk d + 1
  | .map entries => uptoBulkEntries entries + 1
  | .held _ => 1
def uptoBulkAll {H : Type} : List (DataW H) → Nat
  | [] => 0
  | d :: r => uptoBulk d + uptoBulkAll r
def uptoBulkEntries {H : Type} : List (Lit × DataW H) → Nat
  | [] => 0
  | x :: r => uptoBulkEntry x + uptoBulkEntries r
def uptoBulkEntry {H : Type} : Lit × DataW H → Nat
  | (.string bytes, d) => bytes.length + uptoBulk d + 1
  | (_, d) => uptoBulk d + 1
 end
def uptoSmall : (H : Type) → List (DataW H) → Bool := fun _ ds => decide (uptoBulkAll ds ≤ 1048576)
def OpenSpec.upto (s : _root_.Go.ChangeSpec) : _root_.Go.OpenSpec := { _root_.Go.OpenSpec.ofChange s with cond := some uptoSmall }

/-- 'intagliolaw8.G1All', WHERE WHAT IT READS IS OF BULK AT MOST 1048576: true; the input reads as it did. -/
def g1AllUptoRow : OpenClaim := { program := "ytibfppbffdedoaa", sum := "e7dbb59c7ad8998d2980c19a928f0b43108217fd2e415e7daed39d560889e8b7", func := "intaglio/intagliolaw8.G1All", spec := "g1All", inPlace := ["math/bits.Add64", "math/bits.Sub64"], apart := false, narrowed := true }
def G1AllUptoSaid : Prop := g1AllUptoRow.holds Try.pinned (OpenSpec.upto g1AllSpec)

/-- 'intagliolaw8.G1Out', WHERE WHAT IT READS IS OF BULK AT MOST 1048576: true; the input reads as it did. -/
def g1OutUptoRow : OpenClaim := { program := "ytibfppbffdedoaa", sum := "e7dbb59c7ad8998d2980c19a928f0b43108217fd2e415e7daed39d560889e8b7", func := "intaglio/intagliolaw8.G1Out", spec := "g1Out", inPlace := ["math/bits.Add64", "math/bits.Sub64"], apart := false, narrowed := true }
def G1OutUptoSaid : Prop := g1OutUptoRow.holds Try.pinned (OpenSpec.upto g1OutSpec)

/-- 'intagliolaw9.G2All', WHERE WHAT IT READS IS OF BULK AT MOST 1048576: true; the input reads as it did. -/
def g2AllUptoRow : OpenClaim := { program := "ytibfppbffdedoaa", sum := "e7dbb59c7ad8998d2980c19a928f0b43108217fd2e415e7daed39d560889e8b7", func := "intaglio/intagliolaw9.G2All", spec := "g2All", inPlace := ["math/bits.Add64", "math/bits.Sub64"], apart := false, narrowed := true }
def G2AllUptoSaid : Prop := g2AllUptoRow.holds Try.pinned (OpenSpec.upto g2AllSpec)

/-- 'intagliolaw9.G2Out', WHERE WHAT IT READS IS OF BULK AT MOST 1048576: true; the input reads as it did. -/
def g2OutUptoRow : OpenClaim := { program := "ytibfppbffdedoaa", sum := "e7dbb59c7ad8998d2980c19a928f0b43108217fd2e415e7daed39d560889e8b7", func := "intaglio/intagliolaw9.G2Out", spec := "g2Out", inPlace := ["math/bits.Add64", "math/bits.Sub64"], apart := false, narrowed := true }
def G2OutUptoSaid : Prop := g2OutUptoRow.holds Try.pinned (OpenSpec.upto g2OutSpec)

/-- 'intagliolaw9.G2Sums', WHERE WHAT IT READS IS OF BULK AT MOST 1048576: true; the input reads as it did. -/
def g2SumsUptoRow : OpenClaim := { program := "ytibfppbffdedoaa", sum := "e7dbb59c7ad8998d2980c19a928f0b43108217fd2e415e7daed39d560889e8b7", func := "intaglio/intagliolaw9.G2Sums", spec := "g2Sums", inPlace := ["math/bits.Add64", "math/bits.Sub64"], apart := false, narrowed := true }
def G2SumsUptoSaid : Prop := g2SumsUptoRow.holds Try.pinned (OpenSpec.upto g2SumsSpec)

/-- 'intagliolaw19.BatchFolds', WHERE WHAT IT READS IS OF BULK AT MOST 1048576: true; the input reads as it did. -/
def batchFoldsUptoRow : OpenClaim := { program := "ytibfppbffdedoaa", sum := "e7dbb59c7ad8998d2980c19a928f0b43108217fd2e415e7daed39d560889e8b7", func := "intaglio/intagliolaw19.BatchFolds", spec := "batchFolds", inPlace := ["math/bits.Add64", "math/bits.Sub64"], unfollowed := true, recurses := true, apart := false, narrowed := true }
def BatchFoldsUptoSaid : Prop := batchFoldsUptoRow.holds Try.pinned (OpenSpec.upto batchFoldsSpec)

/-- 'intagliolaw19.BatchSides', WHERE WHAT IT READS IS OF BULK AT MOST 1048576: true; the input reads as it did. -/
def batchSidesUptoRow : OpenClaim := { program := "ytibfppbffdedoaa", sum := "e7dbb59c7ad8998d2980c19a928f0b43108217fd2e415e7daed39d560889e8b7", func := "intaglio/intagliolaw19.BatchSides", spec := "batchSides", inPlace := ["math/bits.Add64", "math/bits.Sub64"], unfollowed := true, recurses := true, apart := false, narrowed := true }
def BatchSidesUptoSaid : Prop := batchSidesUptoRow.holds Try.pinned (OpenSpec.upto batchSidesSpec)

end Rows
end Go.Proofs.Ytibfppbffdedoaa
