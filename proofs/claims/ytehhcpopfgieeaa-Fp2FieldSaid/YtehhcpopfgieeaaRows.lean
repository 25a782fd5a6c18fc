/-
  No cell of these rows narrows 'for every input' (looked for: loops, veiled, ifaces, maps, wideKeys, modest, calm, conditions, laid).
  DERIVED. THE GIVEN ROWS OF THIS SEAT. 9 by the template 'for every input the law returns true; each argument reads behind the call as it read before'; 0 by the template 'total and deterministic' (their statements: YtehhcpopfgieeaaTotals.lean).
  GIVEN WITH THE SEED: the statements are not yours to turn. If you find one false, say at which input.
  Laid BY PROGRAM, IN A SANDBOX (cutbox-rows.mjs): the forced cells as the released guide's own fill.sh prints them over the translation 6c6bc003de1edb4d… (all of the seat's roots in one cut). By AI agents, Wed Nov 11 2026. No macro, syntax, notation, axiom, sorry.
-/
import Derived.Test.YtehhcpopfgieeaaChecked
import GoSem.Claim
import GoSem.ClaimJoined
import GoSem.ClaimMapViews
import Derived.JoinedTies
import Derived.KernelRfl
namespace Go.Proofs.Ytehhcpopfgieeaa
/- THE CELL 'sum', in the pinned program and in every row, IS THE sha256 OF THE DUMP (.gsa) THAT YtehhcpopfgieeaaProg.lean LOADS. Nothing in Lean hashes anything: it is a label: what it is worth is what the hold of that sum in a sandbox is worth. -/
noncomputable def Try.pinned : Pinned := { name := "ytehhcpopfgieeaa", sum := "6c6bc003de1edb4d266c7e31321d0f33d074651abd4322d87fb3f3b14990366b", checked := Try.checked }
namespace Rows
def none {H : Type} : Left H := { results := [], args := [] }

/-- 'intagliolaw6.Fp6Field': WHATEVER THE INPUT: true; the input reads as it did. -/
def fp6FieldSpec : ChangeSpec := { name := "fp6Field", fn := fun _ => fun
  | [d1, d2, d3] => { results := [.lit (.bool true)], args := [d1, d2, d3] }
  | _ => none }
def fp6FieldRow : OpenClaim := { program := "ytehhcpopfgieeaa", sum := "6c6bc003de1edb4d266c7e31321d0f33d074651abd4322d87fb3f3b14990366b", func := "intaglio/intagliolaw6.Fp6Field", spec := "fp6Field", inPlace := ["math/bits.Add64", "math/bits.Sub64"], unfollowed := true, recurses := true, apart := false }
def Fp6FieldSaid : Prop := fp6FieldRow.holds Try.pinned (OpenSpec.ofChange fp6FieldSpec)

/-- ITS FALSE NEIGHBOUR: 'it returns false'. Refute it at one input. -/
def fp6FieldWrong : ChangeSpec := { name := "fp6Field", fn := fun _ => fun
  | [d1, d2, d3] => { results := [.lit (.bool false)], args := [d1, d2, d3] }
  | _ => none }
def Fp6FieldWrongFalsely : Prop := fp6FieldRow.holds Try.pinned (OpenSpec.ofChange fp6FieldWrong)

/-- 'intagliolaw6.Fp6All': WHATEVER THE INPUT: true; the input reads as it did. -/
def fp6AllSpec : ChangeSpec := { name := "fp6All", fn := fun _ => fun
  | [d1, d2] => { results := [.lit (.bool true)], args := [d1, d2] }
  | _ => none }
def fp6AllRow : OpenClaim := { program := "ytehhcpopfgieeaa", sum := "6c6bc003de1edb4d266c7e31321d0f33d074651abd4322d87fb3f3b14990366b", func := "intaglio/intagliolaw6.Fp6All", spec := "fp6All", inPlace := ["math/bits.Add64", "math/bits.Sub64"], unfollowed := true, recurses := true, apart := false }
def Fp6AllSaid : Prop := fp6AllRow.holds Try.pinned (OpenSpec.ofChange fp6AllSpec)

/-- ITS FALSE NEIGHBOUR: 'it returns false'. Refute it at one input. -/
def fp6AllWrong : ChangeSpec := { name := "fp6All", fn := fun _ => fun
  | [d1, d2] => { results := [.lit (.bool false)], args := [d1, d2] }
  | _ => none }
def Fp6AllWrongFalsely : Prop := fp6AllRow.holds Try.pinned (OpenSpec.ofChange fp6AllWrong)

/-- 'intagliolaw5.Fp2Squares': WHATEVER THE INPUT: true; the input reads as it did. -/
def fp2SquaresSpec : ChangeSpec := { name := "fp2Squares", fn := fun _ => fun
  | [d1, d2] => { results := [.lit (.bool true)], args := [d1, d2] }
  | _ => none }
def fp2SquaresRow : OpenClaim := { program := "ytehhcpopfgieeaa", sum := "6c6bc003de1edb4d266c7e31321d0f33d074651abd4322d87fb3f3b14990366b", func := "intaglio/intagliolaw5.Fp2Squares", spec := "fp2Squares", inPlace := ["math/bits.Sub64", "math/bits.Add64"], apart := false }
def Fp2SquaresSaid : Prop := fp2SquaresRow.holds Try.pinned (OpenSpec.ofChange fp2SquaresSpec)

/-- ITS FALSE NEIGHBOUR: 'it returns false'. Refute it at one input. -/
def fp2SquaresWrong : ChangeSpec := { name := "fp2Squares", fn := fun _ => fun
  | [d1, d2] => { results := [.lit (.bool false)], args := [d1, d2] }
  | _ => none }
def Fp2SquaresWrongFalsely : Prop := fp2SquaresRow.holds Try.pinned (OpenSpec.ofChange fp2SquaresWrong)

/-- 'intagliolaw5.Fp2All': WHATEVER THE INPUT: true; the input reads as it did. -/
def fp2AllSpec : ChangeSpec := { name := "fp2All", fn := fun _ => fun
  | [d1, d2] => { results := [.lit (.bool true)], args := [d1, d2] }
  | _ => none }
def fp2AllRow : OpenClaim := { program := "ytehhcpopfgieeaa", sum := "6c6bc003de1edb4d266c7e31321d0f33d074651abd4322d87fb3f3b14990366b", func := "intaglio/intagliolaw5.Fp2All", spec := "fp2All", inPlace := ["math/bits.Sub64", "math/bits.Add64"], apart := false }
def Fp2AllSaid : Prop := fp2AllRow.holds Try.pinned (OpenSpec.ofChange fp2AllSpec)

/-- ITS FALSE NEIGHBOUR: 'it returns false'. Refute it at one input. -/
def fp2AllWrong : ChangeSpec := { name := "fp2All", fn := fun _ => fun
  | [d1, d2] => { results := [.lit (.bool false)], args := [d1, d2] }
  | _ => none }
def Fp2AllWrongFalsely : Prop := fp2AllRow.holds Try.pinned (OpenSpec.ofChange fp2AllWrong)

/-- 'intagliolaw7.Fp12Maps': WHATEVER THE INPUT: true; the input reads as it did. -/
def fp12MapsSpec : ChangeSpec := { name := "fp12Maps", fn := fun _ => fun
  | [d1, d2, d3] => { results := [.lit (.bool true)], args := [d1, d2, d3] }
  | _ => none }
def fp12MapsRow : OpenClaim := { program := "ytehhcpopfgieeaa", sum := "6c6bc003de1edb4d266c7e31321d0f33d074651abd4322d87fb3f3b14990366b", func := "intaglio/intagliolaw7.Fp12Maps", spec := "fp12Maps", inPlace := ["math/bits.Add64", "math/bits.Sub64"], unfollowed := true, recurses := true, apart := false }
def Fp12MapsSaid : Prop := fp12MapsRow.holds Try.pinned (OpenSpec.ofChange fp12MapsSpec)

/-- ITS FALSE NEIGHBOUR: 'it returns false'. Refute it at one input. -/
def fp12MapsWrong : ChangeSpec := { name := "fp12Maps", fn := fun _ => fun
  | [d1, d2, d3] => { results := [.lit (.bool false)], args := [d1, d2, d3] }
  | _ => none }
def Fp12MapsWrongFalsely : Prop := fp12MapsRow.holds Try.pinned (OpenSpec.ofChange fp12MapsWrong)

/-- 'intagliolaw7.Fp12Field': WHATEVER THE INPUT: true; the input reads as it did. -/
def fp12FieldSpec : ChangeSpec := { name := "fp12Field", fn := fun _ => fun
  | [d1, d2, d3, d4, d5] => { results := [.lit (.bool true)], args := [d1, d2, d3, d4, d5] }
  | _ => none }
def fp12FieldRow : OpenClaim := { program := "ytehhcpopfgieeaa", sum := "6c6bc003de1edb4d266c7e31321d0f33d074651abd4322d87fb3f3b14990366b", func := "intaglio/intagliolaw7.Fp12Field", spec := "fp12Field", inPlace := ["math/bits.Add64", "math/bits.Sub64"], unfollowed := true, recurses := true, apart := false }
def Fp12FieldSaid : Prop := fp12FieldRow.holds Try.pinned (OpenSpec.ofChange fp12FieldSpec)

/-- ITS FALSE NEIGHBOUR: 'it returns false'. Refute it at one input. -/
def fp12FieldWrong : ChangeSpec := { name := "fp12Field", fn := fun _ => fun
  | [d1, d2, d3, d4, d5] => { results := [.lit (.bool false)], args := [d1, d2, d3, d4, d5] }
  | _ => none }
def Fp12FieldWrongFalsely : Prop := fp12FieldRow.holds Try.pinned (OpenSpec.ofChange fp12FieldWrong)

/-- 'intagliolaw7.Fp12All': WHATEVER THE INPUT: true; the input reads as it did. -/
def fp12AllSpec : ChangeSpec := { name := "fp12All", fn := fun _ => fun
  | [d1, d2, d3] => { results := [.lit (.bool true)], args := [d1, d2, d3] }
  | _ => none }
def fp12AllRow : OpenClaim := { program := "ytehhcpopfgieeaa", sum := "6c6bc003de1edb4d266c7e31321d0f33d074651abd4322d87fb3f3b14990366b", func := "intaglio/intagliolaw7.Fp12All", spec := "fp12All", inPlace := ["math/bits.Add64", "math/bits.Sub64"], unfollowed := true, recurses := true, apart := false }
def Fp12AllSaid : Prop := fp12AllRow.holds Try.pinned (OpenSpec.ofChange fp12AllSpec)

/-- ITS FALSE NEIGHBOUR: 'it returns false'. Refute it at one input. -/
def fp12AllWrong : ChangeSpec := { name := "fp12All", fn := fun _ => fun
  | [d1, d2, d3] => { results := [.lit (.bool false)], args := [d1, d2, d3] }
  | _ => none }
def Fp12AllWrongFalsely : Prop := fp12AllRow.holds Try.pinned (OpenSpec.ofChange fp12AllWrong)

/-- 'intagliolaw5.Fp2Roots': WHATEVER THE INPUT: true; the input reads as it did. -/
def fp2RootsSpec : ChangeSpec := { name := "fp2Roots", fn := fun _ => fun
  | [d1, d2] => { results := [.lit (.bool true)], args := [d1, d2] }
  | _ => none }
def fp2RootsRow : OpenClaim := { program := "ytehhcpopfgieeaa", sum := "6c6bc003de1edb4d266c7e31321d0f33d074651abd4322d87fb3f3b14990366b", func := "intaglio/intagliolaw5.Fp2Roots", spec := "fp2Roots", inPlace := ["math/bits.Sub64", "math/bits.Add64"], apart := false }
def Fp2RootsSaid : Prop := fp2RootsRow.holds Try.pinned (OpenSpec.ofChange fp2RootsSpec)

/-- ITS FALSE NEIGHBOUR: 'it returns false'. Refute it at one input. -/
def fp2RootsWrong : ChangeSpec := { name := "fp2Roots", fn := fun _ => fun
  | [d1, d2] => { results := [.lit (.bool false)], args := [d1, d2] }
  | _ => none }
def Fp2RootsWrongFalsely : Prop := fp2RootsRow.holds Try.pinned (OpenSpec.ofChange fp2RootsWrong)

/-- 'intagliolaw5.Fp2Field': WHATEVER THE INPUT: true; the input reads as it did. -/
def fp2FieldSpec : ChangeSpec := { name := "fp2Field", fn := fun _ => fun
  | [d1, d2, d3] => { results := [.lit (.bool true)], args := [d1, d2, d3] }
  | _ => none }
def fp2FieldRow : OpenClaim := { program := "ytehhcpopfgieeaa", sum := "6c6bc003de1edb4d266c7e31321d0f33d074651abd4322d87fb3f3b14990366b", func := "intaglio/intagliolaw5.Fp2Field", spec := "fp2Field", inPlace := ["math/bits.Sub64", "math/bits.Add64"], apart := false }
def Fp2FieldSaid : Prop := fp2FieldRow.holds Try.pinned (OpenSpec.ofChange fp2FieldSpec)

/-- ITS FALSE NEIGHBOUR: 'it returns false'. Refute it at one input. -/
def fp2FieldWrong : ChangeSpec := { name := "fp2Field", fn := fun _ => fun
  | [d1, d2, d3] => { results := [.lit (.bool false)], args := [d1, d2, d3] }
  | _ => none }
def Fp2FieldWrongFalsely : Prop := fp2FieldRow.holds Try.pinned (OpenSpec.ofChange fp2FieldWrong)

/- THE SECOND FORM. 'bulk': how many values and letters a reading holds, each counted each time it is reached (what is shared counts as often as it is met; a slice's spare places count too). A statement '..UptoSaid' is the law's where the arguments, and the package variables that the reading takes, are together of bulk at most 1048576: NARROWER than '..Said'. Prove '..Said' where nothing that the law and all that it calls make is longer than what came in: it says more and counts as full. Else prove '..UptoSaid'. A law counts once. -/
mutual
def uptoBulk {H : Type} : DataW H → Nat
  | .lit (.string bytes) => bytes.length + 1
  | .lit _ => 1
  | .nil => 1
  | .ptr d => uptoBulk d + 1
  | .slice elems spare => uptoBulkAll elems + uptoBulkAll spare + 1
  | .agg parts => uptoBulkAll parts + 1
  | .iface _ d => uptoBulk d + 1
  | .map entries => uptoBulkEntries entries + 1
  | .held _ => 1
def uptoBulkAll {H : Type} : List (DataW H) → Nat
  | [] => 0
  | d :: r => uptoBulk d + uptoBulkAll r
def uptoBulkEntries {H : Type} : List (Lit × DataW H) → Nat
  | [] => 0
  | x :: r => uptoBulkEntry x + uptoBulkEntries r
def uptoBulkEntry {H : Type} : Lit × DataW H → Nat
  | (.string bytes, d) => bytes.length + uptoBulk d + 1
  | (_, d) => uptoBulk d + 1
 end
def uptoSmall : (H : Type) → List (DataW H) → Bool := fun _ ds => decide (uptoBulkAll ds ≤ 1048576)
def OpenSpec.upto (s : _root_.Go.ChangeSpec) : _root_.Go.OpenSpec := { _root_.Go.OpenSpec.ofChange s with cond := some uptoSmall }

/-- 'intagliolaw6.Fp6Field', WHERE WHAT IT READS IS OF BULK AT MOST 1048576: true; the input reads as it did. -/
def fp6FieldUptoRow : OpenClaim := { program := "ytehhcpopfgieeaa", sum := "6c6bc003de1edb4d266c7e31321d0f33d074651abd4322d87fb3f3b14990366b", func := "intaglio/intagliolaw6.Fp6Field", spec := "fp6Field", inPlace := ["math/bits.Add64", "math/bits.Sub64"], unfollowed := true, recurses := true, apart := false, narrowed := true }
def Fp6FieldUptoSaid : Prop := fp6FieldUptoRow.holds Try.pinned (OpenSpec.upto fp6FieldSpec)

/-- 'intagliolaw6.Fp6All', WHERE WHAT IT READS IS OF BULK AT MOST 1048576: true; the input reads as it did. -/
def fp6AllUptoRow : OpenClaim := { program := "ytehhcpopfgieeaa", sum := "6c6bc003de1edb4d266c7e31321d0f33d074651abd4322d87fb3f3b14990366b", func := "intaglio/intagliolaw6.Fp6All", spec := "fp6All", inPlace := ["math/bits.Add64", "math/bits.Sub64"], unfollowed := true, recurses := true, apart := false, narrowed := true }
def Fp6AllUptoSaid : Prop := fp6AllUptoRow.holds Try.pinned (OpenSpec.upto fp6AllSpec)

/-- 'intagliolaw5.Fp2Squares', WHERE WHAT IT READS IS OF BULK AT MOST 1048576: true; the input reads as it did. -/
def fp2SquaresUptoRow : OpenClaim := { program := "ytehhcpopfgieeaa", sum := "6c6bc003de1edb4d266c7e31321d0f33d074651abd4322d87fb3f3b14990366b", func := "intaglio/intagliolaw5.Fp2Squares", spec := "fp2Squares", inPlace := ["math/bits.Sub64", "math/bits.Add64"], apart := false, narrowed := true }
def Fp2SquaresUptoSaid : Prop := fp2SquaresUptoRow.holds Try.pinned (OpenSpec.upto fp2SquaresSpec)

/-- 'intagliolaw5.Fp2All', WHERE WHAT IT READS IS OF BULK AT MOST 1048576: true; the input reads as it did. -/
def fp2AllUptoRow : OpenClaim := { program := "ytehhcpopfgieeaa", sum := "6c6bc003de1edb4d266c7e31321d0f33d074651abd4322d87fb3f3b14990366b", func := "intaglio/intagliolaw5.Fp2All", spec := "fp2All", inPlace := ["math/bits.Sub64", "math/bits.Add64"], apart := false, narrowed := true }
def Fp2AllUptoSaid : Prop := fp2AllUptoRow.holds Try.pinned (OpenSpec.upto fp2AllSpec)

/-- 'intagliolaw7.Fp12Maps', WHERE WHAT IT READS IS OF BULK AT MOST 1048576: true; the input reads as it did. -/
def fp12MapsUptoRow : OpenClaim := { program := "ytehhcpopfgieeaa", sum := "6c6bc003de1edb4d266c7e31321d0f33d074651abd4322d87fb3f3b14990366b", func := "intaglio/intagliolaw7.Fp12Maps", spec := "fp12Maps", inPlace := ["math/bits.Add64", "math/bits.Sub64"], unfollowed := true, recurses := true, apart := false, narrowed := true }
def Fp12MapsUptoSaid : Prop := fp12MapsUptoRow.holds Try.pinned (OpenSpec.upto fp12MapsSpec)

/-- 'intagliolaw7.Fp12Field', WHERE WHAT IT READS IS OF BULK AT MOST 1048576: true; the input reads as it did. -/
def fp12FieldUptoRow : OpenClaim := { program := "ytehhcpopfgieeaa", sum := "6c6bc003de1edb4d266c7e31321d0f33d074651abd4322d87fb3f3b14990366b", func := "intaglio/intagliolaw7.Fp12Field", spec := "fp12Field", inPlace := ["math/bits.Add64", "math/bits.Sub64"], unfollowed := true, recurses := true, apart := false, narrowed := true }
def Fp12FieldUptoSaid : Prop := fp12FieldUptoRow.holds Try.pinned (OpenSpec.upto fp12FieldSpec)

/-- 'intagliolaw7.Fp12All', WHERE WHAT IT READS IS OF BULK AT MOST 1048576: true; the input reads as it did. -/
def fp12AllUptoRow : OpenClaim := { program := "ytehhcpopfgieeaa", sum := "6c6bc003de1edb4d266c7e31321d0f33d074651abd4322d87fb3f3b14990366b", func := "intaglio/intagliolaw7.Fp12All", spec := "fp12All", inPlace := ["math/bits.Add64", "math/bits.Sub64"], unfollowed := true, recurses := true, apart := false, narrowed := true }
def Fp12AllUptoSaid : Prop := fp12AllUptoRow.holds Try.pinned (OpenSpec.upto fp12AllSpec)

/-- 'intagliolaw5.Fp2Roots', WHERE WHAT IT READS IS OF BULK AT MOST 1048576: true; the input reads as it did. -/
def fp2RootsUptoRow : OpenClaim := { program := "ytehhcpopfgieeaa", sum := "6c6bc003de1edb4d266c7e31321d0f33d074651abd4322d87fb3f3b14990366b", func := "intaglio/intagliolaw5.Fp2Roots", spec := "fp2Roots", inPlace := ["math/bits.Sub64", "math/bits.Add64"], apart := false, narrowed := true }
def Fp2RootsUptoSaid : Prop := fp2RootsUptoRow.holds Try.pinned (OpenSpec.upto fp2RootsSpec)

/-- 'intagliolaw5.Fp2Field', WHERE WHAT IT READS IS OF BULK AT MOST 1048576: true; the input reads as it did. -/
def fp2FieldUptoRow : OpenClaim := { program := "ytehhcpopfgieeaa", sum := "6c6bc003de1edb4d266c7e31321d0f33d074651abd4322d87fb3f3b14990366b", func := "intaglio/intagliolaw5.Fp2Field", spec := "fp2Field", inPlace := ["math/bits.Sub64", "math/bits.Add64"], apart := false, narrowed := true }
def Fp2FieldUptoSaid : Prop := fp2FieldUptoRow.holds Try.pinned (OpenSpec.upto fp2FieldSpec)

end Rows
end Go.Proofs.Ytehhcpopfgieeaa
