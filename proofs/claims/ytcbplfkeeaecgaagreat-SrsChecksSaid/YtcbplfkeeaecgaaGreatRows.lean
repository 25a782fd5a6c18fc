/-
  No cell of these rows narrows 'for every input' (looked for: loops, veiled, ifaces, maps, wideKeys, modest, calm, conditions, laid).
  DERIVED. THE GIVEN ROWS OF THIS SEAT. 4 by the template 'for every input the law returns true; each argument reads behind the call as it read before'; 0 by the template 'total and deterministic' (their statements: YtcbplfkeeaecgaaGreatTotals.lean).
  GIVEN WITH THE SEED: the statements are not yours to turn. If you find one false, say at which input.
  Laid BY PROGRAM, IN A SANDBOX (cutbox-rows.mjs): the forced cells as the released guide's own fill.sh prints them over the translation cf329de965ec97b0… (all of the seat's roots in one cut). By AI agents, Wed Nov 11 2026. No macro, syntax, notation, axiom, sorry.
-/
import Derived.Test.YtcbplfkeeaecgaaGreatChecked
import GoSem.Claim
import GoSem.ClaimJoined
import GoSem.ClaimMapViews
import Derived.JoinedTies
import Derived.KernelRfl
namespace Go.Proofs.YtcbplfkeeaecgaaGreat
/- THE CELL 'sum', in the pinned program and in every row, IS THE sha256 OF THE DUMP (.gsa) THAT YtcbplfkeeaecgaaGreatProg.lean LOADS. Nothing in Lean hashes anything: it is a label: what it is worth is what the hold of that sum in a sandbox is worth. -/
noncomputable def Tryz.pinned : Pinned := { name := "ytcbplfkeeaecgaagreat", sum := "cf329de965ec97b065979f47c23d9445d93332ec507bcf26b6dfbc25d9f79db8", checked := Tryz.checked }
namespace Rows
def none {H : Type} : Left H := { results := [], args := [] }

/-- 'intagliolaw17.SrsFronts': WHATEVER THE INPUT: true; the input reads as it did. -/
def srsFrontsSpec : ChangeSpec := { name := "srsFronts", fn := fun _ => fun
  | [d1, d2, d3] => { results := [.lit (.bool true)], args := [d1, d2, d3] }
  | _ => none }
def srsFrontsRow : OpenClaim := { program := "ytcbplfkeeaecgaagreat", sum := "cf329de965ec97b065979f47c23d9445d93332ec507bcf26b6dfbc25d9f79db8", func := "intaglio/intagliolaw17.SrsFronts", spec := "srsFronts", inPlace := ["math/bits.Add64", "math/bits.Sub64"], unfollowed := true, recurses := true, apart := false }
def SrsFrontsSaid : Prop := srsFrontsRow.holds Tryz.pinned (OpenSpec.ofChange srsFrontsSpec)

/-- ITS FALSE NEIGHBOUR: 'it returns false'. Refute it at one input. -/
def srsFrontsWrong : ChangeSpec := { name := "srsFronts", fn := fun _ => fun
  | [d1, d2, d3] => { results := [.lit (.bool false)], args := [d1, d2, d3] }
  | _ => none }
def SrsFrontsWrongFalsely : Prop := srsFrontsRow.holds Tryz.pinned (OpenSpec.ofChange srsFrontsWrong)

/-- 'intagliolaw17.SrsChecks': WHATEVER THE INPUT: true; the input reads as it did. -/
def srsChecksSpec : ChangeSpec := { name := "srsChecks", fn := fun _ => fun
  | [d1, d2, d3, d4, d5] => { results := [.lit (.bool true)], args := [d1, d2, d3, d4, d5] }
  | _ => none }
def srsChecksRow : OpenClaim := { program := "ytcbplfkeeaecgaagreat", sum := "cf329de965ec97b065979f47c23d9445d93332ec507bcf26b6dfbc25d9f79db8", func := "intaglio/intagliolaw17.SrsChecks", spec := "srsChecks", inPlace := ["math/bits.Add64", "math/bits.Sub64"], unfollowed := true, recurses := true, apart := false }
def SrsChecksSaid : Prop := srsChecksRow.holds Tryz.pinned (OpenSpec.ofChange srsChecksSpec)

/-- ITS FALSE NEIGHBOUR: 'it returns false'. Refute it at one input. -/
def srsChecksWrong : ChangeSpec := { name := "srsChecks", fn := fun _ => fun
  | [d1, d2, d3, d4, d5] => { results := [.lit (.bool false)], args := [d1, d2, d3, d4, d5] }
  | _ => none }
def SrsChecksWrongFalsely : Prop := srsChecksRow.holds Tryz.pinned (OpenSpec.ofChange srsChecksWrong)

/-- 'intagliolaw17.SrsMakes': WHATEVER THE INPUT: true; the input reads as it did. -/
def srsMakesSpec : ChangeSpec := { name := "srsMakes", fn := fun _ => fun
  | [d1, d2, d3, d4] => { results := [.lit (.bool true)], args := [d1, d2, d3, d4] }
  | _ => none }
def srsMakesRow : OpenClaim := { program := "ytcbplfkeeaecgaagreat", sum := "cf329de965ec97b065979f47c23d9445d93332ec507bcf26b6dfbc25d9f79db8", func := "intaglio/intagliolaw17.SrsMakes", spec := "srsMakes", inPlace := ["math/bits.Add64", "math/bits.Sub64"], unfollowed := true, recurses := true, apart := false }
def SrsMakesSaid : Prop := srsMakesRow.holds Tryz.pinned (OpenSpec.ofChange srsMakesSpec)

/-- ITS FALSE NEIGHBOUR: 'it returns false'. Refute it at one input. -/
def srsMakesWrong : ChangeSpec := { name := "srsMakes", fn := fun _ => fun
  | [d1, d2, d3, d4] => { results := [.lit (.bool false)], args := [d1, d2, d3, d4] }
  | _ => none }
def SrsMakesWrongFalsely : Prop := srsMakesRow.holds Tryz.pinned (OpenSpec.ofChange srsMakesWrong)

/-- 'intagliolaw17.SrsReads': WHATEVER THE INPUT: true; the input reads as it did. -/
def srsReadsSpec : ChangeSpec := { name := "srsReads", fn := fun _ => fun
  | [d1, d2, d3, d4] => { results := [.lit (.bool true)], args := [d1, d2, d3, d4] }
  | _ => none }
def srsReadsRow : OpenClaim := { program := "ytcbplfkeeaecgaagreat", sum := "cf329de965ec97b065979f47c23d9445d93332ec507bcf26b6dfbc25d9f79db8", func := "intaglio/intagliolaw17.SrsReads", spec := "srsReads", inPlace := ["math/bits.Add64", "math/bits.Sub64"], unfollowed := true, recurses := true, apart := false }
def SrsReadsSaid : Prop := srsReadsRow.holds Tryz.pinned (OpenSpec.ofChange srsReadsSpec)

/-- ITS FALSE NEIGHBOUR: 'it returns false'. Refute it at one input. -/
def srsReadsWrong : ChangeSpec := { name := "srsReads", fn := fun _ => fun
  | [d1, d2, d3, d4] => { results := [.lit (.bool false)], args := [d1, d2, d3, d4] }
  | _ => none }
def SrsReadsWrongFalsely : Prop := srsReadsRow.holds Tryz.pinned (OpenSpec.ofChange srsReadsWrong)

/- THE SECOND FORM. 'bulk': how many values and letters a reading holds, each counted each time it is reached (what is shared counts as often as it is met; a slice's spare places count too). A statement '..UptoSaid' is the law's where the arguments, and the package variables that the reading takes, are together of bulk at most 1048576: NARROWER than '..Said'. Prove '..Said' where nothing that the law and all that it calls make is longer than what came in: it says more and counts as full. Else prove '..UptoSaid'. A law counts once. -/
mutual
def uptoBulk {H : Type} : DataW H → Nat
  | .lit (.string bytes) => bytes.length + 1
  | .lit _ => 1
  | .nil => 1
  | .ptr d => uptoBulk d + 1
  | .slice elems spare => uptoBulkAll elems + uptoBulkAll spare + 1
  | .agg parts => uptoBulkAll parts + 1
  | .iface _ d => uptoBulk d + 1
  | .map entries => uptoBulkEntries entries + 1
  | .held _ => 1
def uptoBulkAll {H : Type} : List (DataW H) → Nat
  | [] => 0
  | d :: r => uptoBulk d + uptoBulkAll r
def uptoBulkEntries {H : Type} : List (Lit × DataW H) → Nat
  | [] => 0
  | x :: r => uptoBulkEntry x + uptoBulkEntries r
def uptoBulkEntry {H : Type} : Lit × DataW H → Nat
  | (.string bytes, d) => bytes.length + uptoBulk d + 1
  | (_, d) => uptoBulk d + 1
 end
def uptoSmall : (H : Type) → List (DataW H) → Bool := fun _ ds => decide (uptoBulkAll ds ≤ 1048576)
def OpenSpec.upto (s : _root_.Go.ChangeSpec) : _root_.Go.OpenSpec := { _root_.Go.OpenSpec.ofChange s with cond := some uptoSmall }

/-- 'intagliolaw17.SrsFronts', WHERE WHAT IT READS IS OF BULK AT MOST 1048576: true; the input reads as it did. -/
def srsFrontsUptoRow : OpenClaim := { program := "ytcbplfkeeaecgaagreat", sum := "cf329de965ec97b065979f47c23d9445d93332ec507bcf26b6dfbc25d9f79db8", func := "intaglio/intagliolaw17.SrsFronts", spec := "srsFronts", inPlace := ["math/bits.Add64", "math/bits.Sub64"], unfollowed := true, recurses := true, apart := false, narrowed := true }
def SrsFrontsUptoSaid : Prop := srsFrontsUptoRow.holds Tryz.pinned (OpenSpec.upto srsFrontsSpec)

/-- 'intagliolaw17.SrsChecks', WHERE WHAT IT READS IS OF BULK AT MOST 1048576: true; the input reads as it did. -/
def srsChecksUptoRow : OpenClaim := { program := "ytcbplfkeeaecgaagreat", sum := "cf329de965ec97b065979f47c23d9445d93332ec507bcf26b6dfbc25d9f79db8", func := "intaglio/intagliolaw17.SrsChecks", spec := "srsChecks", inPlace := ["math/bits.Add64", "math/bits.Sub64"], unfollowed := true, recurses := true, apart := false, narrowed := true }
def SrsChecksUptoSaid : Prop := srsChecksUptoRow.holds Tryz.pinned (OpenSpec.upto srsChecksSpec)

/-- 'intagliolaw17.SrsMakes', WHERE WHAT IT READS IS OF BULK AT MOST 1048576: true; the input reads as it did. -/
def srsMakesUptoRow : OpenClaim := { program := "ytcbplfkeeaecgaagreat", sum := "cf329de965ec97b065979f47c23d9445d93332ec507bcf26b6dfbc25d9f79db8", func := "intaglio/intagliolaw17.SrsMakes", spec := "srsMakes", inPlace := ["math/bits.Add64", "math/bits.Sub64"], unfollowed := true, recurses := true, apart := false, narrowed := true }
def SrsMakesUptoSaid : Prop := srsMakesUptoRow.holds Tryz.pinned (OpenSpec.upto srsMakesSpec)

/-- 'intagliolaw17.SrsReads', WHERE WHAT IT READS IS OF BULK AT MOST 1048576: true; the input reads as it did. -/
def srsReadsUptoRow : OpenClaim := { program := "ytcbplfkeeaecgaagreat", sum := "cf329de965ec97b065979f47c23d9445d93332ec507bcf26b6dfbc25d9f79db8", func := "intaglio/intagliolaw17.SrsReads", spec := "srsReads", inPlace := ["math/bits.Add64", "math/bits.Sub64"], unfollowed := true, recurses := true, apart := false, narrowed := true }
def SrsReadsUptoSaid : Prop := srsReadsUptoRow.holds Tryz.pinned (OpenSpec.upto srsReadsSpec)

end Rows
end Go.Proofs.YtcbplfkeeaecgaaGreat
