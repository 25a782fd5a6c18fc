/-
  No cell of these rows narrows 'for every input' (looked for: loops, veiled, ifaces, maps, wideKeys, modest, calm, conditions, laid).
  DERIVED. THE GIVEN ROWS OF THIS SEAT. 10 by the template 'for every input the law returns true; each argument reads behind the call as it read before'; 0 by the template 'total and deterministic' (their statements: YtbbnabednkopdaaGreatTotals.lean).
  GIVEN WITH THE SEED: the statements are not yours to turn. If you find one false, say at which input.
  Laid BY PROGRAM, IN A SANDBOX (cutbox-rows.mjs): the forced cells as the released guide's own fill.sh prints them over the translation 5964e23336249ef9… (all of the seat's roots in one cut). By AI agents, Wed Nov 11 2026. No macro, syntax, notation, axiom, sorry.
-/
import Derived.Test.YtbbnabednkopdaaGreatChecked
import GoSem.Claim
import GoSem.ClaimJoined
import GoSem.ClaimMapViews
import Derived.JoinedTies
import Derived.KernelRfl
namespace Go.Proofs.YtbbnabednkopdaaGreat
/- THE CELL 'sum', in the pinned program and in every row, IS THE sha256 OF THE DUMP (.gsa) THAT YtbbnabednkopdaaGreatProg.lean LOADS. Nothing in Lean hashes anything: it is a label: what it is worth is what the hold of that sum in a sandbox is worth. -/
noncomputable def Tryz.pinned : Pinned := { name := "ytbbnabednkopdaagreat", sum := "5964e23336249ef9cbedec1c3efc87ed652fa82d3c1f7ef54123b5995e4db790", checked := Tryz.checked }
namespace Rows
def none {H : Type} : Left H := { results := [], args := [] }

/-- 'intagliolaw11.PairingChecks': WHATEVER THE INPUT: true; the input reads as it did. -/
def pairingChecksSpec : ChangeSpec := { name := "pairingChecks", fn := fun _ => fun
  | [d1, d2, d3] => { results := [.lit (.bool true)], args := [d1, d2, d3] }
  | _ => none }
def pairingChecksRow : OpenClaim := { program := "ytbbnabednkopdaagreat", sum := "5964e23336249ef9cbedec1c3efc87ed652fa82d3c1f7ef54123b5995e4db790", func := "intaglio/intagliolaw11.PairingChecks", spec := "pairingChecks", inPlace := ["math/bits.Sub64", "math/bits.Add64"], unfollowed := true, recurses := true, apart := false }
def PairingChecksSaid : Prop := pairingChecksRow.holds Tryz.pinned (OpenSpec.ofChange pairingChecksSpec)

/-- ITS FALSE NEIGHBOUR: 'it returns false'. Refute it at one input. -/
def pairingChecksWrong : ChangeSpec := { name := "pairingChecks", fn := fun _ => fun
  | [d1, d2, d3] => { results := [.lit (.bool false)], args := [d1, d2, d3] }
  | _ => none }
def PairingChecksWrongFalsely : Prop := pairingChecksRow.holds Tryz.pinned (OpenSpec.ofChange pairingChecksWrong)

/-- 'intagliolaw11.PairingMultiplies': WHATEVER THE INPUT: true; the input reads as it did. -/
def pairingMultipliesSpec : ChangeSpec := { name := "pairingMultiplies", fn := fun _ => fun
  | [d1, d2] => { results := [.lit (.bool true)], args := [d1, d2] }
  | _ => none }
def pairingMultipliesRow : OpenClaim := { program := "ytbbnabednkopdaagreat", sum := "5964e23336249ef9cbedec1c3efc87ed652fa82d3c1f7ef54123b5995e4db790", func := "intaglio/intagliolaw11.PairingMultiplies", spec := "pairingMultiplies", inPlace := ["math/bits.Sub64", "math/bits.Add64"], unfollowed := true, recurses := true, apart := false }
def PairingMultipliesSaid : Prop := pairingMultipliesRow.holds Tryz.pinned (OpenSpec.ofChange pairingMultipliesSpec)

/-- ITS FALSE NEIGHBOUR: 'it returns false'. Refute it at one input. -/
def pairingMultipliesWrong : ChangeSpec := { name := "pairingMultiplies", fn := fun _ => fun
  | [d1, d2] => { results := [.lit (.bool false)], args := [d1, d2] }
  | _ => none }
def PairingMultipliesWrongFalsely : Prop := pairingMultipliesRow.holds Tryz.pinned (OpenSpec.ofChange pairingMultipliesWrong)

/-- 'intagliolaw11.PairingOut': WHATEVER THE INPUT: true; the input reads as it did. -/
def pairingOutSpec : ChangeSpec := { name := "pairingOut", fn := fun _ => fun
  | [d1, d2] => { results := [.lit (.bool true)], args := [d1, d2] }
  | _ => none }
def pairingOutRow : OpenClaim := { program := "ytbbnabednkopdaagreat", sum := "5964e23336249ef9cbedec1c3efc87ed652fa82d3c1f7ef54123b5995e4db790", func := "intaglio/intagliolaw11.PairingOut", spec := "pairingOut", inPlace := ["math/bits.Sub64", "math/bits.Add64"], unfollowed := true, recurses := true, apart := false }
def PairingOutSaid : Prop := pairingOutRow.holds Tryz.pinned (OpenSpec.ofChange pairingOutSpec)

/-- ITS FALSE NEIGHBOUR: 'it returns false'. Refute it at one input. -/
def pairingOutWrong : ChangeSpec := { name := "pairingOut", fn := fun _ => fun
  | [d1, d2] => { results := [.lit (.bool false)], args := [d1, d2] }
  | _ => none }
def PairingOutWrongFalsely : Prop := pairingOutRow.holds Tryz.pinned (OpenSpec.ofChange pairingOutWrong)

/-- 'intagliolaw11.PairingSums': WHATEVER THE INPUT: true; the input reads as it did. -/
def pairingSumsSpec : ChangeSpec := { name := "pairingSums", fn := fun _ => fun
  | [d1, d2, d3, d4] => { results := [.lit (.bool true)], args := [d1, d2, d3, d4] }
  | _ => none }
def pairingSumsRow : OpenClaim := { program := "ytbbnabednkopdaagreat", sum := "5964e23336249ef9cbedec1c3efc87ed652fa82d3c1f7ef54123b5995e4db790", func := "intaglio/intagliolaw11.PairingSums", spec := "pairingSums", inPlace := ["math/bits.Sub64", "math/bits.Add64"], unfollowed := true, recurses := true, apart := false }
def PairingSumsSaid : Prop := pairingSumsRow.holds Tryz.pinned (OpenSpec.ofChange pairingSumsSpec)

/-- ITS FALSE NEIGHBOUR: 'it returns false'. Refute it at one input. -/
def pairingSumsWrong : ChangeSpec := { name := "pairingSums", fn := fun _ => fun
  | [d1, d2, d3, d4] => { results := [.lit (.bool false)], args := [d1, d2, d3, d4] }
  | _ => none }
def PairingSumsWrongFalsely : Prop := pairingSumsRow.holds Tryz.pinned (OpenSpec.ofChange pairingSumsWrong)

/-- 'intagliolaw10.PointWrites': WHATEVER THE INPUT: true; the input reads as it did. -/
def pointWritesSpec : ChangeSpec := { name := "pointWrites", fn := fun _ => fun
  | [d1, d2, d3] => { results := [.lit (.bool true)], args := [d1, d2, d3] }
  | _ => none }
def pointWritesRow : OpenClaim := { program := "ytbbnabednkopdaagreat", sum := "5964e23336249ef9cbedec1c3efc87ed652fa82d3c1f7ef54123b5995e4db790", func := "intaglio/intagliolaw10.PointWrites", spec := "pointWrites", inPlace := ["math/bits.Add64", "math/bits.Sub64"], apart := false }
def PointWritesSaid : Prop := pointWritesRow.holds Tryz.pinned (OpenSpec.ofChange pointWritesSpec)

/-- ITS FALSE NEIGHBOUR: 'it returns false'. Refute it at one input. -/
def pointWritesWrong : ChangeSpec := { name := "pointWrites", fn := fun _ => fun
  | [d1, d2, d3] => { results := [.lit (.bool false)], args := [d1, d2, d3] }
  | _ => none }
def PointWritesWrongFalsely : Prop := pointWritesRow.holds Tryz.pinned (OpenSpec.ofChange pointWritesWrong)

/-- 'intagliolaw10.PointReads1': WHATEVER THE INPUT: true; the input reads as it did. -/
def pointReads1Spec : ChangeSpec := { name := "pointReads1", fn := fun _ => fun
  | [d] => { results := [.lit (.bool true)], args := [d] }
  | _ => none }
def pointReads1Row : OpenClaim := { program := "ytbbnabednkopdaagreat", sum := "5964e23336249ef9cbedec1c3efc87ed652fa82d3c1f7ef54123b5995e4db790", func := "intaglio/intagliolaw10.PointReads1", spec := "pointReads1", inPlace := ["math/bits.Add64", "math/bits.Sub64"], apart := false }
def PointReads1Said : Prop := pointReads1Row.holds Tryz.pinned (OpenSpec.ofChange pointReads1Spec)

/-- ITS FALSE NEIGHBOUR: 'it returns false'. Refute it at one input. -/
def pointReads1Wrong : ChangeSpec := { name := "pointReads1", fn := fun _ => fun
  | [d] => { results := [.lit (.bool false)], args := [d] }
  | _ => none }
def PointReads1WrongFalsely : Prop := pointReads1Row.holds Tryz.pinned (OpenSpec.ofChange pointReads1Wrong)

/-- 'intagliolaw10.PointReads2': WHATEVER THE INPUT: true; the input reads as it did. -/
def pointReads2Spec : ChangeSpec := { name := "pointReads2", fn := fun _ => fun
  | [d] => { results := [.lit (.bool true)], args := [d] }
  | _ => none }
def pointReads2Row : OpenClaim := { program := "ytbbnabednkopdaagreat", sum := "5964e23336249ef9cbedec1c3efc87ed652fa82d3c1f7ef54123b5995e4db790", func := "intaglio/intagliolaw10.PointReads2", spec := "pointReads2", inPlace := ["math/bits.Add64", "math/bits.Sub64"], apart := false }
def PointReads2Said : Prop := pointReads2Row.holds Tryz.pinned (OpenSpec.ofChange pointReads2Spec)

/-- ITS FALSE NEIGHBOUR: 'it returns false'. Refute it at one input. -/
def pointReads2Wrong : ChangeSpec := { name := "pointReads2", fn := fun _ => fun
  | [d] => { results := [.lit (.bool false)], args := [d] }
  | _ => none }
def PointReads2WrongFalsely : Prop := pointReads2Row.holds Tryz.pinned (OpenSpec.ofChange pointReads2Wrong)

/-- 'intagliolaw10.PointBack': WHATEVER THE INPUT: true; the input reads as it did. -/
def pointBackSpec : ChangeSpec := { name := "pointBack", fn := fun _ => fun
  | [d1, d2, d3, d4] => { results := [.lit (.bool true)], args := [d1, d2, d3, d4] }
  | _ => none }
def pointBackRow : OpenClaim := { program := "ytbbnabednkopdaagreat", sum := "5964e23336249ef9cbedec1c3efc87ed652fa82d3c1f7ef54123b5995e4db790", func := "intaglio/intagliolaw10.PointBack", spec := "pointBack", inPlace := ["math/bits.Add64", "math/bits.Sub64"], apart := false }
def PointBackSaid : Prop := pointBackRow.holds Tryz.pinned (OpenSpec.ofChange pointBackSpec)

/-- ITS FALSE NEIGHBOUR: 'it returns false'. Refute it at one input. -/
def pointBackWrong : ChangeSpec := { name := "pointBack", fn := fun _ => fun
  | [d1, d2, d3, d4] => { results := [.lit (.bool false)], args := [d1, d2, d3, d4] }
  | _ => none }
def PointBackWrongFalsely : Prop := pointBackRow.holds Tryz.pinned (OpenSpec.ofChange pointBackWrong)

/-- 'intagliolaw10.PointTurned': WHATEVER THE INPUT: true; the input reads as it did. -/
def pointTurnedSpec : ChangeSpec := { name := "pointTurned", fn := fun _ => fun
  | [d] => { results := [.lit (.bool true)], args := [d] }
  | _ => none }
def pointTurnedRow : OpenClaim := { program := "ytbbnabednkopdaagreat", sum := "5964e23336249ef9cbedec1c3efc87ed652fa82d3c1f7ef54123b5995e4db790", func := "intaglio/intagliolaw10.PointTurned", spec := "pointTurned", inPlace := ["math/bits.Add64", "math/bits.Sub64"], apart := false }
def PointTurnedSaid : Prop := pointTurnedRow.holds Tryz.pinned (OpenSpec.ofChange pointTurnedSpec)

/-- ITS FALSE NEIGHBOUR: 'it returns false'. Refute it at one input. -/
def pointTurnedWrong : ChangeSpec := { name := "pointTurned", fn := fun _ => fun
  | [d] => { results := [.lit (.bool false)], args := [d] }
  | _ => none }
def PointTurnedWrongFalsely : Prop := pointTurnedRow.holds Tryz.pinned (OpenSpec.ofChange pointTurnedWrong)

/-- 'intagliolaw10.PointHeads': WHATEVER THE INPUT: true; the input reads as it did. -/
def pointHeadsSpec : ChangeSpec := { name := "pointHeads", fn := fun _ => fun
  | [d1, d2, d3] => { results := [.lit (.bool true)], args := [d1, d2, d3] }
  | _ => none }
def pointHeadsRow : OpenClaim := { program := "ytbbnabednkopdaagreat", sum := "5964e23336249ef9cbedec1c3efc87ed652fa82d3c1f7ef54123b5995e4db790", func := "intaglio/intagliolaw10.PointHeads", spec := "pointHeads", inPlace := ["math/bits.Add64", "math/bits.Sub64"], apart := false }
def PointHeadsSaid : Prop := pointHeadsRow.holds Tryz.pinned (OpenSpec.ofChange pointHeadsSpec)

/-- ITS FALSE NEIGHBOUR: 'it returns false'. Refute it at one input. -/
def pointHeadsWrong : ChangeSpec := { name := "pointHeads", fn := fun _ => fun
  | [d1, d2, d3] => { results := [.lit (.bool false)], args := [d1, d2, d3] }
  | _ => none }
def PointHeadsWrongFalsely : Prop := pointHeadsRow.holds Tryz.pinned (OpenSpec.ofChange pointHeadsWrong)

/- THE SECOND FORM. 'bulk': how many values and letters a reading holds, each counted each time it is reached (what is shared counts as often as it is met; a slice's spare places count too). A statement '..UptoSaid' is the law's where the arguments, and the package variables that the reading takes, are together of bulk at most 1048576: NARROWER than '..Said'. Prove '..Said' where nothing that the law and all that it calls make is longer than what came in: it says more and counts as full. Else prove '..UptoSaid'. A law counts once. -/
mutual
def uptoBulk {H : Type} : DataW H → Nat
  | .lit (.string bytes) => bytes.length + 1
  | .lit _ => 1
  | .nil => 1
  | .ptr d => uptoBulk d + 1
  | .slice elems spare => uptoBulkAll elems + uptoBulkAll spare + 1
  | .agg parts => uptoBulkAll parts + 1
  | .iface _ d => uptoBulk d + 1
  | .map entries => uptoBulkEntries entries + 1
  | .held _ => 1
def uptoBulkAll {H : Type} : List (DataW H) → Nat
  | [] => 0
  | d :: r => uptoBulk d + uptoBulkAll r
def uptoBulkEntries {H : Type} : List (Lit × DataW H) → Nat
  | [] => 0
  | x :: r => uptoBulkEntry x + uptoBulkEntries r
def uptoBulkEntry {H : Type} : Lit × DataW H → Nat
  | (.string bytes, d) => bytes.length + uptoBulk d + 1
  | (_, d) => uptoBulk d + 1
 end
def uptoSmall : (H : Type) → List (DataW H) → Bool := fun _ ds => decide (uptoBulkAll ds ≤ 1048576)
def OpenSpec.upto (s : _root_.Go.ChangeSpec) : _root_.Go.OpenSpec := { _root_.Go.OpenSpec.ofChange s with cond := some uptoSmall }

/-- 'intagliolaw11.PairingChecks', WHERE WHAT IT READS IS OF BULK AT MOST 1048576: true; the input reads as it did. -/
def pairingChecksUptoRow : OpenClaim := { program := "ytbbnabednkopdaagreat", sum := "5964e23336249ef9cbedec1c3efc87ed652fa82d3c1f7ef54123b5995e4db790", func := "intaglio/intagliolaw11.PairingChecks", spec := "pairingChecks", inPlace := ["math/bits.Sub64", "math/bits.Add64"], unfollowed := true, recurses := true, apart := false, narrowed := true }
def PairingChecksUptoSaid : Prop := pairingChecksUptoRow.holds Tryz.pinned (OpenSpec.upto pairingChecksSpec)

/-- 'intagliolaw11.PairingMultiplies', WHERE WHAT IT READS IS OF BULK AT MOST 1048576: true; the input reads as it did. -/
def pairingMultipliesUptoRow : OpenClaim := { program := "ytbbnabednkopdaagreat", sum := "5964e23336249ef9cbedec1c3efc87ed652fa82d3c1f7ef54123b5995e4db790", func := "intaglio/intagliolaw11.PairingMultiplies", spec := "pairingMultiplies", inPlace := ["math/bits.Sub64", "math/bits.Add64"], unfollowed := true, recurses := true, apart := false, narrowed := true }
def PairingMultipliesUptoSaid : Prop := pairingMultipliesUptoRow.holds Tryz.pinned (OpenSpec.upto pairingMultipliesSpec)

/-- 'intagliolaw11.PairingOut', WHERE WHAT IT READS IS OF BULK AT MOST 1048576: true; the input reads as it did. -/
def pairingOutUptoRow : OpenClaim := { program := "ytbbnabednkopdaagreat", sum := "5964e23336249ef9cbedec1c3efc87ed652fa82d3c1f7ef54123b5995e4db790", func := "intaglio/intagliolaw11.PairingOut", spec := "pairingOut", inPlace := ["math/bits.Sub64", "math/bits.Add64"], unfollowed := true, recurses := true, apart := false, narrowed := true }
def PairingOutUptoSaid : Prop := pairingOutUptoRow.holds Tryz.pinned (OpenSpec.upto pairingOutSpec)

/-- 'intagliolaw11.PairingSums', WHERE WHAT IT READS IS OF BULK AT MOST 1048576: true; the input reads as it did. -/
def pairingSumsUptoRow : OpenClaim := { program := "ytbbnabednkopdaagreat", sum := "5964e23336249ef9cbedec1c3efc87ed652fa82d3c1f7ef54123b5995e4db790", func := "intaglio/intagliolaw11.PairingSums", spec := "pairingSums", inPlace := ["math/bits.Sub64", "math/bits.Add64"], unfollowed := true, recurses := true, apart := false, narrowed := true }
def PairingSumsUptoSaid : Prop := pairingSumsUptoRow.holds Tryz.pinned (OpenSpec.upto pairingSumsSpec)

/-- 'intagliolaw10.PointWrites', WHERE WHAT IT READS IS OF BULK AT MOST 1048576: true; the input reads as it did. -/
def pointWritesUptoRow : OpenClaim := { program := "ytbbnabednkopdaagreat", sum := "5964e23336249ef9cbedec1c3efc87ed652fa82d3c1f7ef54123b5995e4db790", func := "intaglio/intagliolaw10.PointWrites", spec := "pointWrites", inPlace := ["math/bits.Add64", "math/bits.Sub64"], apart := false, narrowed := true }
def PointWritesUptoSaid : Prop := pointWritesUptoRow.holds Tryz.pinned (OpenSpec.upto pointWritesSpec)

/-- 'intagliolaw10.PointReads1', WHERE WHAT IT READS IS OF BULK AT MOST 1048576: true; the input reads as it did. -/
def pointReads1UptoRow : OpenClaim := { program := "ytbbnabednkopdaagreat", sum := "5964e23336249ef9cbedec1c3efc87ed652fa82d3c1f7ef54123b5995e4db790", func := "intaglio/intagliolaw10.PointReads1", spec := "pointReads1", inPlace := ["math/bits.Add64", "math/bits.Sub64"], apart := false, narrowed := true }
def PointReads1UptoSaid : Prop := pointReads1UptoRow.holds Tryz.pinned (OpenSpec.upto pointReads1Spec)

/-- 'intagliolaw10.PointReads2', WHERE WHAT IT READS IS OF BULK AT MOST 1048576: true; the input reads as it did. -/
def pointReads2UptoRow : OpenClaim := { program := "ytbbnabednkopdaagreat", sum := "5964e23336249ef9cbedec1c3efc87ed652fa82d3c1f7ef54123b5995e4db790", func := "intaglio/intagliolaw10.PointReads2", spec := "pointReads2", inPlace := ["math/bits.Add64", "math/bits.Sub64"], apart := false, narrowed := true }
def PointReads2UptoSaid : Prop := pointReads2UptoRow.holds Tryz.pinned (OpenSpec.upto pointReads2Spec)

/-- 'intagliolaw10.PointBack', WHERE WHAT IT READS IS OF BULK AT MOST 1048576: true; the input reads as it did. -/
def pointBackUptoRow : OpenClaim := { program := "ytbbnabednkopdaagreat", sum := "5964e23336249ef9cbedec1c3efc87ed652fa82d3c1f7ef54123b5995e4db790", func := "intaglio/intagliolaw10.PointBack", spec := "pointBack", inPlace := ["math/bits.Add64", "math/bits.Sub64"], apart := false, narrowed := true }
def PointBackUptoSaid : Prop := pointBackUptoRow.holds Tryz.pinned (OpenSpec.upto pointBackSpec)

/-- 'intagliolaw10.PointTurned', WHERE WHAT IT READS IS OF BULK AT MOST 1048576: true; the input reads as it did. -/
def pointTurnedUptoRow : OpenClaim := { program := "ytbbnabednkopdaagreat", sum := "5964e23336249ef9cbedec1c3efc87ed652fa82d3c1f7ef54123b5995e4db790", func := "intaglio/intagliolaw10.PointTurned", spec := "pointTurned", inPlace := ["math/bits.Add64", "math/bits.Sub64"], apart := false, narrowed := true }
def PointTurnedUptoSaid : Prop := pointTurnedUptoRow.holds Tryz.pinned (OpenSpec.upto pointTurnedSpec)

/-- 'intagliolaw10.PointHeads', WHERE WHAT IT READS IS OF BULK AT MOST 1048576: true; the input reads as it did. -/
def pointHeadsUptoRow : OpenClaim := { program := "ytbbnabednkopdaagreat", sum := "5964e23336249ef9cbedec1c3efc87ed652fa82d3c1f7ef54123b5995e4db790", func := "intaglio/intagliolaw10.PointHeads", spec := "pointHeads", inPlace := ["math/bits.Add64", "math/bits.Sub64"], apart := false, narrowed := true }
def PointHeadsUptoSaid : Prop := pointHeadsUptoRow.holds Tryz.pinned (OpenSpec.upto pointHeadsSpec)

end Rows
end Go.Proofs.YtbbnabednkopdaaGreat
