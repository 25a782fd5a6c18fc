/-
  No cell of these rows narrows 'for every input' (looked for: loops, veiled, ifaces, maps, wideKeys, modest, calm, conditions, laid).
  DERIVED. THE GIVEN ROWS OF THIS SEAT. 6 by the template 'for every input the law returns true; each argument reads behind the call as it read before'; 0 by the template 'total and deterministic' (their statements: YtfkmooldindfjaaTotals.lean).
  GIVEN WITH THE SEED: the statements are not yours to turn. If you find one false, say at which input.
  Laid BY PROGRAM, IN A SANDBOX (cutbox-rows.mjs): the forced cells as the released guide's own fill.sh prints them over the translation fd6ecf2d47b7c71c… (all of the seat's roots in one cut). By AI agents, Wed Nov 11 2026. No macro, syntax, notation, axiom, sorry.
-/
import Derived.Test.YtfkmooldindfjaaChecked
import GoSem.Claim
import GoSem.ClaimJoined
import GoSem.ClaimMapViews
import Derived.JoinedTies
import Derived.KernelRfl
namespace Go.Proofs.Ytfkmooldindfjaa
/- THE CELL 'sum', in the pinned program and in every row, IS THE sha256 OF THE DUMP (.gsa) THAT YtfkmooldindfjaaProg.lean LOADS. Nothing in Lean hashes anything: it is a label: what it is worth is what the hold of that sum in a sandbox is worth. -/
noncomputable def Try.pinned : Pinned := { name := "ytfkmooldindfjaa", sum := "fd6ecf2d47b7c71c93d5c36f5dd784c410987c34046a87b9d7efde3eb50df24e", checked := Try.checked }
namespace Rows
def none {H : Type} : Left H := { results := [], args := [] }

/-- 'intagliolaw3.FpPowers': WHATEVER THE INPUT: true; the input reads as it did. -/
def fpPowersSpec : ChangeSpec := { name := "fpPowers", fn := fun _ => fun
  | [d1, d2] => { results := [.lit (.bool true)], args := [d1, d2] }
  | _ => none }
def fpPowersRow : OpenClaim := { program := "ytfkmooldindfjaa", sum := "fd6ecf2d47b7c71c93d5c36f5dd784c410987c34046a87b9d7efde3eb50df24e", func := "intaglio/intagliolaw3.FpPowers", spec := "fpPowers", inPlace := ["math/bits.Add64", "math/bits.Sub64"], apart := false }
def FpPowersSaid : Prop := fpPowersRow.holds Try.pinned (OpenSpec.ofChange fpPowersSpec)

/-- ITS FALSE NEIGHBOUR: 'it returns false'. Refute it at one input. -/
def fpPowersWrong : ChangeSpec := { name := "fpPowers", fn := fun _ => fun
  | [d1, d2] => { results := [.lit (.bool false)], args := [d1, d2] }
  | _ => none }
def FpPowersWrongFalsely : Prop := fpPowersRow.holds Try.pinned (OpenSpec.ofChange fpPowersWrong)

/-- 'intagliolaw3.FpSquares': WHATEVER THE INPUT: true; the input reads as it did. -/
def fpSquaresSpec : ChangeSpec := { name := "fpSquares", fn := fun _ => fun
  | [d] => { results := [.lit (.bool true)], args := [d] }
  | _ => none }
def fpSquaresRow : OpenClaim := { program := "ytfkmooldindfjaa", sum := "fd6ecf2d47b7c71c93d5c36f5dd784c410987c34046a87b9d7efde3eb50df24e", func := "intaglio/intagliolaw3.FpSquares", spec := "fpSquares", inPlace := ["math/bits.Add64", "math/bits.Sub64"], apart := false }
def FpSquaresSaid : Prop := fpSquaresRow.holds Try.pinned (OpenSpec.ofChange fpSquaresSpec)

/-- ITS FALSE NEIGHBOUR: 'it returns false'. Refute it at one input. -/
def fpSquaresWrong : ChangeSpec := { name := "fpSquares", fn := fun _ => fun
  | [d] => { results := [.lit (.bool false)], args := [d] }
  | _ => none }
def FpSquaresWrongFalsely : Prop := fpSquaresRow.holds Try.pinned (OpenSpec.ofChange fpSquaresWrong)

/-- 'intagliolaw3.FpExponents': WHATEVER THE INPUT: true; the input reads as it did. -/
def fpExponentsSpec : ChangeSpec := { name := "fpExponents", fn := fun _ => fun
  | [d1, d2, d3] => { results := [.lit (.bool true)], args := [d1, d2, d3] }
  | _ => none }
def fpExponentsRow : OpenClaim := { program := "ytfkmooldindfjaa", sum := "fd6ecf2d47b7c71c93d5c36f5dd784c410987c34046a87b9d7efde3eb50df24e", func := "intaglio/intagliolaw3.FpExponents", spec := "fpExponents", inPlace := ["math/bits.Add64", "math/bits.Sub64"], apart := false }
def FpExponentsSaid : Prop := fpExponentsRow.holds Try.pinned (OpenSpec.ofChange fpExponentsSpec)

/-- ITS FALSE NEIGHBOUR: 'it returns false'. Refute it at one input. -/
def fpExponentsWrong : ChangeSpec := { name := "fpExponents", fn := fun _ => fun
  | [d1, d2, d3] => { results := [.lit (.bool false)], args := [d1, d2, d3] }
  | _ => none }
def FpExponentsWrongFalsely : Prop := fpExponentsRow.holds Try.pinned (OpenSpec.ofChange fpExponentsWrong)

/-- 'intagliolaw3.FpAll': WHATEVER THE INPUT: true; the input reads as it did. -/
def fpAllSpec : ChangeSpec := { name := "fpAll", fn := fun _ => fun
  | [d1, d2, d3] => { results := [.lit (.bool true)], args := [d1, d2, d3] }
  | _ => none }
def fpAllRow : OpenClaim := { program := "ytfkmooldindfjaa", sum := "fd6ecf2d47b7c71c93d5c36f5dd784c410987c34046a87b9d7efde3eb50df24e", func := "intaglio/intagliolaw3.FpAll", spec := "fpAll", inPlace := ["math/bits.Add64", "math/bits.Sub64"], apart := false }
def FpAllSaid : Prop := fpAllRow.holds Try.pinned (OpenSpec.ofChange fpAllSpec)

/-- ITS FALSE NEIGHBOUR: 'it returns false'. Refute it at one input. -/
def fpAllWrong : ChangeSpec := { name := "fpAll", fn := fun _ => fun
  | [d1, d2, d3] => { results := [.lit (.bool false)], args := [d1, d2, d3] }
  | _ => none }
def FpAllWrongFalsely : Prop := fpAllRow.holds Try.pinned (OpenSpec.ofChange fpAllWrong)

/-- 'intagliolaw3.FpField': WHATEVER THE INPUT: true; the input reads as it did. -/
def fpFieldSpec : ChangeSpec := { name := "fpField", fn := fun _ => fun
  | [d1, d2, d3] => { results := [.lit (.bool true)], args := [d1, d2, d3] }
  | _ => none }
def fpFieldRow : OpenClaim := { program := "ytfkmooldindfjaa", sum := "fd6ecf2d47b7c71c93d5c36f5dd784c410987c34046a87b9d7efde3eb50df24e", func := "intaglio/intagliolaw3.FpField", spec := "fpField", inPlace := ["math/bits.Add64", "math/bits.Sub64"], apart := false }
def FpFieldSaid : Prop := fpFieldRow.holds Try.pinned (OpenSpec.ofChange fpFieldSpec)

/-- ITS FALSE NEIGHBOUR: 'it returns false'. Refute it at one input. -/
def fpFieldWrong : ChangeSpec := { name := "fpField", fn := fun _ => fun
  | [d1, d2, d3] => { results := [.lit (.bool false)], args := [d1, d2, d3] }
  | _ => none }
def FpFieldWrongFalsely : Prop := fpFieldRow.holds Try.pinned (OpenSpec.ofChange fpFieldWrong)

/-- 'intagliolaw3.FpBytes': WHATEVER THE INPUT: true; the input reads as it did. -/
def fpBytesSpec : ChangeSpec := { name := "fpBytes", fn := fun _ => fun
  | [d1, d2] => { results := [.lit (.bool true)], args := [d1, d2] }
  | _ => none }
def fpBytesRow : OpenClaim := { program := "ytfkmooldindfjaa", sum := "fd6ecf2d47b7c71c93d5c36f5dd784c410987c34046a87b9d7efde3eb50df24e", func := "intaglio/intagliolaw3.FpBytes", spec := "fpBytes", inPlace := ["math/bits.Add64", "math/bits.Sub64"], apart := false }
def FpBytesSaid : Prop := fpBytesRow.holds Try.pinned (OpenSpec.ofChange fpBytesSpec)

/-- ITS FALSE NEIGHBOUR: 'it returns false'. Refute it at one input. -/
def fpBytesWrong : ChangeSpec := { name := "fpBytes", fn := fun _ => fun
  | [d1, d2] => { results := [.lit (.bool false)], args := [d1, d2] }
  | _ => none }
def FpBytesWrongFalsely : Prop := fpBytesRow.holds Try.pinned (OpenSpec.ofChange fpBytesWrong)

/- THE SECOND FORM. 'bulk': how many values and letters a reading holds, each counted each time it is reached (what is shared counts as often as it is met; a slice's spare places count too). A statement '..UptoSaid' is the law's where the arguments, and the package variables that the reading takes, are together of bulk at most 1048576: NARROWER than '..Said'. Prove '..Said' where nothing that the law and all that it calls make is longer than what came in: it says more and counts as full. Else prove '..UptoSaid'. A law counts once. -/
mutual
def uptoBulk {H : Type} : DataW H → Nat
  | .lit (.string bytes) => bytes.length + 1
  | .lit _ => 1
  | .nil => 1
  | .ptr d => uptoBulk d + 1
  | .slice elems spare => uptoBulkAll elems + uptoBulkAll spare + 1
  | .agg parts => uptoBulkAll parts + 1
  | .iface _ d => uptoBulk d + 1
  | .map entries => uptoBulkEntries entries + 1
  | .held _ => 1
def uptoBulkAll {H : Type} : List (DataW H) → Nat
  | [] => 0
  | d :: r => uptoBulk d + uptoBulkAll r
def uptoBulkEntries {H : Type} : List (Lit × DataW H) → Nat
  | [] => 0
  | x :: r => uptoBulkEntry x + uptoBulkEntries r
def uptoBulkEntry {H : Type} : Lit × DataW H → Nat
  | (.string bytes, d) => bytes.length + uptoBulk d + 1
  | (_, d) => uptoBulk d + 1
 end
def uptoSmall : (H : Type) → List (DataW H) → Bool := fun _ ds => decide (uptoBulkAll ds ≤ 1048576)
def OpenSpec.upto (s : _root_.Go.ChangeSpec) : _root_.Go.OpenSpec := { _root_.Go.OpenSpec.ofChange s with cond := some uptoSmall }

/-- 'intagliolaw3.FpPowers', WHERE WHAT IT READS IS OF BULK AT MOST 1048576: true; the input reads as it did. -/
def fpPowersUptoRow : OpenClaim := { program := "ytfkmooldindfjaa", sum := "fd6ecf2d47b7c71c93d5c36f5dd784c410987c34046a87b9d7efde3eb50df24e", func := "intaglio/intagliolaw3.FpPowers", spec := "fpPowers", inPlace := ["math/bits.Add64", "math/bits.Sub64"], apart := false, narrowed := true }
def FpPowersUptoSaid : Prop := fpPowersUptoRow.holds Try.pinned (OpenSpec.upto fpPowersSpec)

/-- 'intagliolaw3.FpSquares', WHERE WHAT IT READS IS OF BULK AT MOST 1048576: true; the input reads as it did. -/
def fpSquaresUptoRow : OpenClaim := { program := "ytfkmooldindfjaa", sum := "fd6ecf2d47b7c71c93d5c36f5dd784c410987c34046a87b9d7efde3eb50df24e", func := "intaglio/intagliolaw3.FpSquares", spec := "fpSquares", inPlace := ["math/bits.Add64", "math/bits.Sub64"], apart := false, narrowed := true }
def FpSquaresUptoSaid : Prop := fpSquaresUptoRow.holds Try.pinned (OpenSpec.upto fpSquaresSpec)

/-- 'intagliolaw3.FpExponents', WHERE WHAT IT READS IS OF BULK AT MOST 1048576: true; the input reads as it did. -/
def fpExponentsUptoRow : OpenClaim := { program := "ytfkmooldindfjaa", sum := "fd6ecf2d47b7c71c93d5c36f5dd784c410987c34046a87b9d7efde3eb50df24e", func := "intaglio/intagliolaw3.FpExponents", spec := "fpExponents", inPlace := ["math/bits.Add64", "math/bits.Sub64"], apart := false, narrowed := true }
def FpExponentsUptoSaid : Prop := fpExponentsUptoRow.holds Try.pinned (OpenSpec.upto fpExponentsSpec)

/-- 'intagliolaw3.FpAll', WHERE WHAT IT READS IS OF BULK AT MOST 1048576: true; the input reads as it did. -/
def fpAllUptoRow : OpenClaim := { program := "ytfkmooldindfjaa", sum := "fd6ecf2d47b7c71c93d5c36f5dd784c410987c34046a87b9d7efde3eb50df24e", func := "intaglio/intagliolaw3.FpAll", spec := "fpAll", inPlace := ["math/bits.Add64", "math/bits.Sub64"], apart := false, narrowed := true }
def FpAllUptoSaid : Prop := fpAllUptoRow.holds Try.pinned (OpenSpec.upto fpAllSpec)

/-- 'intagliolaw3.FpField', WHERE WHAT IT READS IS OF BULK AT MOST 1048576: true; the input reads as it did. -/
def fpFieldUptoRow : OpenClaim := { program := "ytfkmooldindfjaa", sum := "fd6ecf2d47b7c71c93d5c36f5dd784c410987c34046a87b9d7efde3eb50df24e", func := "intaglio/intagliolaw3.FpField", spec := "fpField", inPlace := ["math/bits.Add64", "math/bits.Sub64"], apart := false, narrowed := true }
def FpFieldUptoSaid : Prop := fpFieldUptoRow.holds Try.pinned (OpenSpec.upto fpFieldSpec)

/-- 'intagliolaw3.FpBytes', WHERE WHAT IT READS IS OF BULK AT MOST 1048576: true; the input reads as it did. -/
def fpBytesUptoRow : OpenClaim := { program := "ytfkmooldindfjaa", sum := "fd6ecf2d47b7c71c93d5c36f5dd784c410987c34046a87b9d7efde3eb50df24e", func := "intaglio/intagliolaw3.FpBytes", spec := "fpBytes", inPlace := ["math/bits.Add64", "math/bits.Sub64"], apart := false, narrowed := true }
def FpBytesUptoSaid : Prop := fpBytesUptoRow.holds Try.pinned (OpenSpec.upto fpBytesSpec)

end Rows
end Go.Proofs.Ytfkmooldindfjaa
