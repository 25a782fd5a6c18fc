/-
  No cell of these rows narrows 'for every input' (looked for: loops, veiled, ifaces, maps, wideKeys, modest, calm, conditions, laid).
  DERIVED. THE GIVEN ROWS OF THIS SEAT. 10 by the template 'for every input the law returns true; each argument reads behind the call as it read before'; 0 by the template 'total and deterministic' (their statements: YtgpafcehehaiiaaGreatTotals.lean).
  GIVEN WITH THE SEED: the statements are not yours to turn. If you find one false, say at which input.
  Laid BY PROGRAM, IN A SANDBOX (cutbox-rows.mjs): the forced cells as the released guide's own fill.sh prints them over the translation b3fd22a3c4447009… (all of the seat's roots in one cut). By AI agents, Wed Nov 11 2026. No macro, syntax, notation, axiom, sorry.
-/
import Derived.Test.YtgpafcehehaiiaaGreatChecked
import GoSem.Claim
import GoSem.ClaimJoined
import GoSem.ClaimMapViews
import Derived.JoinedTies
import Derived.KernelRfl
namespace Go.Proofs.YtgpafcehehaiiaaGreat
/- THE CELL 'sum', in the pinned program and in every row, IS THE sha256 OF THE DUMP (.gsa) THAT YtgpafcehehaiiaaGreatProg.lean LOADS. Nothing in Lean hashes anything: it is a label: what it is worth is what the hold of that sum in a sandbox is worth. -/
noncomputable def Tryz.pinned : Pinned := { name := "ytgpafcehehaiiaagreat", sum := "b3fd22a3c4447009b6429fc5db2b6a14d2849af15ce91d3c38cb492874aa37b1", checked := Tryz.checked }
namespace Rows
def none {H : Type} : Left H := { results := [], args := [] }

/-- 'intagliolaw19.BatchOpens': WHATEVER THE INPUT: true; the input reads as it did. -/
def batchOpensSpec : ChangeSpec := { name := "batchOpens", fn := fun _ => fun
  | [d1, d2, d3, d4, d5, d6, d7] => { results := [.lit (.bool true)], args := [d1, d2, d3, d4, d5, d6, d7] }
  | _ => none }
def batchOpensRow : OpenClaim := { program := "ytgpafcehehaiiaagreat", sum := "b3fd22a3c4447009b6429fc5db2b6a14d2849af15ce91d3c38cb492874aa37b1", func := "intaglio/intagliolaw19.BatchOpens", spec := "batchOpens", inPlace := ["math/bits.Add64", "math/bits.Sub64"], unfollowed := true, recurses := true, apart := false }
def BatchOpensSaid : Prop := batchOpensRow.holds Tryz.pinned (OpenSpec.ofChange batchOpensSpec)

/-- ITS FALSE NEIGHBOUR: 'it returns false'. Refute it at one input. -/
def batchOpensWrong : ChangeSpec := { name := "batchOpens", fn := fun _ => fun
  | [d1, d2, d3, d4, d5, d6, d7] => { results := [.lit (.bool false)], args := [d1, d2, d3, d4, d5, d6, d7] }
  | _ => none }
def BatchOpensWrongFalsely : Prop := batchOpensRow.holds Tryz.pinned (OpenSpec.ofChange batchOpensWrong)

/-- 'intagliolaw18.KzgCommits': WHATEVER THE INPUT: true; the input reads as it did. -/
def kzgCommitsSpec : ChangeSpec := { name := "kzgCommits", fn := fun _ => fun
  | [d1, d2, d3, d4] => { results := [.lit (.bool true)], args := [d1, d2, d3, d4] }
  | _ => none }
def kzgCommitsRow : OpenClaim := { program := "ytgpafcehehaiiaagreat", sum := "b3fd22a3c4447009b6429fc5db2b6a14d2849af15ce91d3c38cb492874aa37b1", func := "intaglio/intagliolaw18.KzgCommits", spec := "kzgCommits", inPlace := ["math/bits.Add64", "math/bits.Sub64"], unfollowed := true, recurses := true, apart := false }
def KzgCommitsSaid : Prop := kzgCommitsRow.holds Tryz.pinned (OpenSpec.ofChange kzgCommitsSpec)

/-- ITS FALSE NEIGHBOUR: 'it returns false'. Refute it at one input. -/
def kzgCommitsWrong : ChangeSpec := { name := "kzgCommits", fn := fun _ => fun
  | [d1, d2, d3, d4] => { results := [.lit (.bool false)], args := [d1, d2, d3, d4] }
  | _ => none }
def KzgCommitsWrongFalsely : Prop := kzgCommitsRow.holds Tryz.pinned (OpenSpec.ofChange kzgCommitsWrong)

/-- 'intagliolaw18.KzgChecks': WHATEVER THE INPUT: true; the input reads as it did. -/
def kzgChecksSpec : ChangeSpec := { name := "kzgChecks", fn := fun _ => fun
  | [d1, d2, d3, d4, d5, d6] => { results := [.lit (.bool true)], args := [d1, d2, d3, d4, d5, d6] }
  | _ => none }
def kzgChecksRow : OpenClaim := { program := "ytgpafcehehaiiaagreat", sum := "b3fd22a3c4447009b6429fc5db2b6a14d2849af15ce91d3c38cb492874aa37b1", func := "intaglio/intagliolaw18.KzgChecks", spec := "kzgChecks", inPlace := ["math/bits.Add64", "math/bits.Sub64"], unfollowed := true, recurses := true, apart := false }
def KzgChecksSaid : Prop := kzgChecksRow.holds Tryz.pinned (OpenSpec.ofChange kzgChecksSpec)

/-- ITS FALSE NEIGHBOUR: 'it returns false'. Refute it at one input. -/
def kzgChecksWrong : ChangeSpec := { name := "kzgChecks", fn := fun _ => fun
  | [d1, d2, d3, d4, d5, d6] => { results := [.lit (.bool false)], args := [d1, d2, d3, d4, d5, d6] }
  | _ => none }
def KzgChecksWrongFalsely : Prop := kzgChecksRow.holds Tryz.pinned (OpenSpec.ofChange kzgChecksWrong)

/-- 'intagliolaw18.KzgHonest': WHATEVER THE INPUT: true; the input reads as it did. -/
def kzgHonestSpec : ChangeSpec := { name := "kzgHonest", fn := fun _ => fun
  | [d1, d2, d3, d4] => { results := [.lit (.bool true)], args := [d1, d2, d3, d4] }
  | _ => none }
def kzgHonestRow : OpenClaim := { program := "ytgpafcehehaiiaagreat", sum := "b3fd22a3c4447009b6429fc5db2b6a14d2849af15ce91d3c38cb492874aa37b1", func := "intaglio/intagliolaw18.KzgHonest", spec := "kzgHonest", inPlace := ["math/bits.Add64", "math/bits.Sub64"], unfollowed := true, recurses := true, apart := false }
def KzgHonestSaid : Prop := kzgHonestRow.holds Tryz.pinned (OpenSpec.ofChange kzgHonestSpec)

/-- ITS FALSE NEIGHBOUR: 'it returns false'. Refute it at one input. -/
def kzgHonestWrong : ChangeSpec := { name := "kzgHonest", fn := fun _ => fun
  | [d1, d2, d3, d4] => { results := [.lit (.bool false)], args := [d1, d2, d3, d4] }
  | _ => none }
def KzgHonestWrongFalsely : Prop := kzgHonestRow.holds Tryz.pinned (OpenSpec.ofChange kzgHonestWrong)

/-- 'intagliolaw18.KzgLinear': WHATEVER THE INPUT: true; the input reads as it did. -/
def kzgLinearSpec : ChangeSpec := { name := "kzgLinear", fn := fun _ => fun
  | [d1, d2, d3, d4] => { results := [.lit (.bool true)], args := [d1, d2, d3, d4] }
  | _ => none }
def kzgLinearRow : OpenClaim := { program := "ytgpafcehehaiiaagreat", sum := "b3fd22a3c4447009b6429fc5db2b6a14d2849af15ce91d3c38cb492874aa37b1", func := "intaglio/intagliolaw18.KzgLinear", spec := "kzgLinear", inPlace := ["math/bits.Add64", "math/bits.Sub64"], unfollowed := true, recurses := true, apart := false }
def KzgLinearSaid : Prop := kzgLinearRow.holds Tryz.pinned (OpenSpec.ofChange kzgLinearSpec)

/-- ITS FALSE NEIGHBOUR: 'it returns false'. Refute it at one input. -/
def kzgLinearWrong : ChangeSpec := { name := "kzgLinear", fn := fun _ => fun
  | [d1, d2, d3, d4] => { results := [.lit (.bool false)], args := [d1, d2, d3, d4] }
  | _ => none }
def KzgLinearWrongFalsely : Prop := kzgLinearRow.holds Tryz.pinned (OpenSpec.ofChange kzgLinearWrong)

/-- 'intagliolaw18.KzgOut': WHATEVER THE INPUT: true; the input reads as it did. -/
def kzgOutSpec : ChangeSpec := { name := "kzgOut", fn := fun _ => fun
  | [d1, d2, d3] => { results := [.lit (.bool true)], args := [d1, d2, d3] }
  | _ => none }
def kzgOutRow : OpenClaim := { program := "ytgpafcehehaiiaagreat", sum := "b3fd22a3c4447009b6429fc5db2b6a14d2849af15ce91d3c38cb492874aa37b1", func := "intaglio/intagliolaw18.KzgOut", spec := "kzgOut", inPlace := ["math/bits.Add64", "math/bits.Sub64"], unfollowed := true, recurses := true, apart := false }
def KzgOutSaid : Prop := kzgOutRow.holds Tryz.pinned (OpenSpec.ofChange kzgOutSpec)

/-- ITS FALSE NEIGHBOUR: 'it returns false'. Refute it at one input. -/
def kzgOutWrong : ChangeSpec := { name := "kzgOut", fn := fun _ => fun
  | [d1, d2, d3] => { results := [.lit (.bool false)], args := [d1, d2, d3] }
  | _ => none }
def KzgOutWrongFalsely : Prop := kzgOutRow.holds Tryz.pinned (OpenSpec.ofChange kzgOutWrong)

/-- 'intagliolaw18.KzgPads': WHATEVER THE INPUT: true; the input reads as it did. -/
def kzgPadsSpec : ChangeSpec := { name := "kzgPads", fn := fun _ => fun
  | [d1, d2, d3, d4] => { results := [.lit (.bool true)], args := [d1, d2, d3, d4] }
  | _ => none }
def kzgPadsRow : OpenClaim := { program := "ytgpafcehehaiiaagreat", sum := "b3fd22a3c4447009b6429fc5db2b6a14d2849af15ce91d3c38cb492874aa37b1", func := "intaglio/intagliolaw18.KzgPads", spec := "kzgPads", inPlace := ["math/bits.Add64", "math/bits.Sub64"], unfollowed := true, recurses := true, apart := false }
def KzgPadsSaid : Prop := kzgPadsRow.holds Tryz.pinned (OpenSpec.ofChange kzgPadsSpec)

/-- ITS FALSE NEIGHBOUR: 'it returns false'. Refute it at one input. -/
def kzgPadsWrong : ChangeSpec := { name := "kzgPads", fn := fun _ => fun
  | [d1, d2, d3, d4] => { results := [.lit (.bool false)], args := [d1, d2, d3, d4] }
  | _ => none }
def KzgPadsWrongFalsely : Prop := kzgPadsRow.holds Tryz.pinned (OpenSpec.ofChange kzgPadsWrong)

/-- 'intagliolaw19.BatchChecks': WHATEVER THE INPUT: true; the input reads as it did. -/
def batchChecksSpec : ChangeSpec := { name := "batchChecks", fn := fun _ => fun
  | [d1, d2, d3, d4, d5, d6, d7, d8, d9, d10, d11] => { results := [.lit (.bool true)], args := [d1, d2, d3, d4, d5, d6, d7, d8, d9, d10, d11] }
  | _ => none }
def batchChecksRow : OpenClaim := { program := "ytgpafcehehaiiaagreat", sum := "b3fd22a3c4447009b6429fc5db2b6a14d2849af15ce91d3c38cb492874aa37b1", func := "intaglio/intagliolaw19.BatchChecks", spec := "batchChecks", inPlace := ["math/bits.Add64", "math/bits.Sub64"], unfollowed := true, recurses := true, apart := false }
def BatchChecksSaid : Prop := batchChecksRow.holds Tryz.pinned (OpenSpec.ofChange batchChecksSpec)

/-- ITS FALSE NEIGHBOUR: 'it returns false'. Refute it at one input. -/
def batchChecksWrong : ChangeSpec := { name := "batchChecks", fn := fun _ => fun
  | [d1, d2, d3, d4, d5, d6, d7, d8, d9, d10, d11] => { results := [.lit (.bool false)], args := [d1, d2, d3, d4, d5, d6, d7, d8, d9, d10, d11] }
  | _ => none }
def BatchChecksWrongFalsely : Prop := batchChecksRow.holds Tryz.pinned (OpenSpec.ofChange batchChecksWrong)

/-- 'intagliolaw19.BatchOne': WHATEVER THE INPUT: true; the input reads as it did. -/
def batchOneSpec : ChangeSpec := { name := "batchOne", fn := fun _ => fun
  | [d1, d2, d3, d4, d5, d6, d7, d8] => { results := [.lit (.bool true)], args := [d1, d2, d3, d4, d5, d6, d7, d8] }
  | _ => none }
def batchOneRow : OpenClaim := { program := "ytgpafcehehaiiaagreat", sum := "b3fd22a3c4447009b6429fc5db2b6a14d2849af15ce91d3c38cb492874aa37b1", func := "intaglio/intagliolaw19.BatchOne", spec := "batchOne", inPlace := ["math/bits.Add64", "math/bits.Sub64"], unfollowed := true, recurses := true, apart := false }
def BatchOneSaid : Prop := batchOneRow.holds Tryz.pinned (OpenSpec.ofChange batchOneSpec)

/-- ITS FALSE NEIGHBOUR: 'it returns false'. Refute it at one input. -/
def batchOneWrong : ChangeSpec := { name := "batchOne", fn := fun _ => fun
  | [d1, d2, d3, d4, d5, d6, d7, d8] => { results := [.lit (.bool false)], args := [d1, d2, d3, d4, d5, d6, d7, d8] }
  | _ => none }
def BatchOneWrongFalsely : Prop := batchOneRow.holds Tryz.pinned (OpenSpec.ofChange batchOneWrong)

/-- 'intagliolaw19.BatchHonest': WHATEVER THE INPUT: true; the input reads as it did. -/
def batchHonestSpec : ChangeSpec := { name := "batchHonest", fn := fun _ => fun
  | [d1, d2, d3, d4, d5, d6, d7, d8] => { results := [.lit (.bool true)], args := [d1, d2, d3, d4, d5, d6, d7, d8] }
  | _ => none }
def batchHonestRow : OpenClaim := { program := "ytgpafcehehaiiaagreat", sum := "b3fd22a3c4447009b6429fc5db2b6a14d2849af15ce91d3c38cb492874aa37b1", func := "intaglio/intagliolaw19.BatchHonest", spec := "batchHonest", inPlace := ["math/bits.Add64", "math/bits.Sub64"], unfollowed := true, recurses := true, apart := false }
def BatchHonestSaid : Prop := batchHonestRow.holds Tryz.pinned (OpenSpec.ofChange batchHonestSpec)

/-- ITS FALSE NEIGHBOUR: 'it returns false'. Refute it at one input. -/
def batchHonestWrong : ChangeSpec := { name := "batchHonest", fn := fun _ => fun
  | [d1, d2, d3, d4, d5, d6, d7, d8] => { results := [.lit (.bool false)], args := [d1, d2, d3, d4, d5, d6, d7, d8] }
  | _ => none }
def BatchHonestWrongFalsely : Prop := batchHonestRow.holds Tryz.pinned (OpenSpec.ofChange batchHonestWrong)

/- THE SECOND FORM. 'bulk': how many values and letters a reading holds, each counted each time it is reached (what is shared counts as often as it is met; a slice's spare places count too). A statement '..UptoSaid' is the law's where the arguments, and the package variables that the reading takes, are together of bulk at most 1048576: NARROWER than '..Said'. Prove '..Said' where nothing that the law and all that it calls make is longer than what came in: it says more and counts as full. Else prove '..UptoSaid'. A law counts once. -/
mutual
def uptoBulk {H : Type} : DataW H → Nat
  | .lit (.string bytes) => bytes.length + 1
  | .lit _ => 1
  | .nil => 1
  | .ptr d => uptoBulk d + 1
  | .slice elems spare => uptoBulkAll elems + uptoBulkAll spare + 1
  | .agg parts => uptoBulkAll parts + 1
  | .iface _ d => uptoBulk d + 1
  | .map entries => uptoBulkEntries entries + 1
  | .held _ => 1
def uptoBulkAll {H : Type} : List (DataW H) → Nat
  | [] => 0
  | d :: r => uptoBulk d + uptoBulkAll r
def uptoBulkEntries {H : Type} : List (Lit × DataW H) → Nat
  | [] => 0
  | x :: r => uptoBulkEntry x + uptoBulkEntries r
def uptoBulkEntry {H : Type} : Lit × DataW H → Nat
  | (.string bytes, d) => bytes.length + uptoBulk d + 1
  | (_, d) => uptoBulk d + 1
 end
def uptoSmall : (H : Type) → List (DataW H) → Bool := fun _ ds => decide (uptoBulkAll ds ≤ 1048576)
def OpenSpec.upto (s : _root_.Go.ChangeSpec) : _root_.Go.OpenSpec := { _root_.Go.OpenSpec.ofChange s with cond := some uptoSmall }

/-- 'intagliolaw19.BatchOpens', WHERE WHAT IT READS IS OF BULK AT MOST 1048576: true; the input reads as it did. -/
def batchOpensUptoRow : OpenClaim := { program := "ytgpafcehehaiiaagreat", sum := "b3fd22a3c4447009b6429fc5db2b6a14d2849af15ce91d3c38cb492874aa37b1", func := "intaglio/intagliolaw19.BatchOpens", spec := "batchOpens", inPlace := ["math/bits.Add64", "math/bits.Sub64"], unfollowed := true, recurses := true, apart := false, narrowed := true }
def BatchOpensUptoSaid : Prop := batchOpensUptoRow.holds Tryz.pinned (OpenSpec.upto batchOpensSpec)

/-- 'intagliolaw18.KzgCommits', WHERE WHAT IT READS IS OF BULK AT MOST 1048576: true; the input reads as it did. -/
def kzgCommitsUptoRow : OpenClaim := { program := "ytgpafcehehaiiaagreat", sum := "b3fd22a3c4447009b6429fc5db2b6a14d2849af15ce91d3c38cb492874aa37b1", func := "intaglio/intagliolaw18.KzgCommits", spec := "kzgCommits", inPlace := ["math/bits.Add64", "math/bits.Sub64"], unfollowed := true, recurses := true, apart := false, narrowed := true }
def KzgCommitsUptoSaid : Prop := kzgCommitsUptoRow.holds Tryz.pinned (OpenSpec.upto kzgCommitsSpec)

/-- 'intagliolaw18.KzgChecks', WHERE WHAT IT READS IS OF BULK AT MOST 1048576: true; the input reads as it did. -/
def kzgChecksUptoRow : OpenClaim := { program := "ytgpafcehehaiiaagreat", sum := "b3fd22a3c4447009b6429fc5db2b6a14d2849af15ce91d3c38cb492874aa37b1", func := "intaglio/intagliolaw18.KzgChecks", spec := "kzgChecks", inPlace := ["math/bits.Add64", "math/bits.Sub64"], unfollowed := true, recurses := true, apart := false, narrowed := true }
def KzgChecksUptoSaid : Prop := kzgChecksUptoRow.holds Tryz.pinned (OpenSpec.upto kzgChecksSpec)

/-- 'intagliolaw18.KzgHonest', WHERE WHAT IT READS IS OF BULK AT MOST 1048576: true; the input reads as it did. -/
def kzgHonestUptoRow : OpenClaim := { program := "ytgpafcehehaiiaagreat", sum := "b3fd22a3c4447009b6429fc5db2b6a14d2849af15ce91d3c38cb492874aa37b1", func := "intaglio/intagliolaw18.KzgHonest", spec := "kzgHonest", inPlace := ["math/bits.Add64", "math/bits.Sub64"], unfollowed := true, recurses := true, apart := false, narrowed := true }
def KzgHonestUptoSaid : Prop := kzgHonestUptoRow.holds Tryz.pinned (OpenSpec.upto kzgHonestSpec)

/-- 'intagliolaw18.KzgLinear', WHERE WHAT IT READS IS OF BULK AT MOST 1048576: true; the input reads as it did. -/
def kzgLinearUptoRow : OpenClaim := { program := "ytgpafcehehaiiaagreat", sum := "b3fd22a3c4447009b6429fc5db2b6a14d2849af15ce91d3c38cb492874aa37b1", func := "intaglio/intagliolaw18.KzgLinear", spec := "kzgLinear", inPlace := ["math/bits.Add64", "math/bits.Sub64"], unfollowed := true, recurses := true, apart := false, narrowed := true }
def KzgLinearUptoSaid : Prop := kzgLinearUptoRow.holds Tryz.pinned (OpenSpec.upto kzgLinearSpec)

/-- 'intagliolaw18.KzgOut', WHERE WHAT IT READS IS OF BULK AT MOST 1048576: true; the input reads as it did. -/
def kzgOutUptoRow : OpenClaim := { program := "ytgpafcehehaiiaagreat", sum := "b3fd22a3c4447009b6429fc5db2b6a14d2849af15ce91d3c38cb492874aa37b1", func := "intaglio/intagliolaw18.KzgOut", spec := "kzgOut", inPlace := ["math/bits.Add64", "math/bits.Sub64"], unfollowed := true, recurses := true, apart := false, narrowed := true }
def KzgOutUptoSaid : Prop := kzgOutUptoRow.holds Tryz.pinned (OpenSpec.upto kzgOutSpec)

/-- 'intagliolaw18.KzgPads', WHERE WHAT IT READS IS OF BULK AT MOST 1048576: true; the input reads as it did. -/
def kzgPadsUptoRow : OpenClaim := { program := "ytgpafcehehaiiaagreat", sum := "b3fd22a3c4447009b6429fc5db2b6a14d2849af15ce91d3c38cb492874aa37b1", func := "intaglio/intagliolaw18.KzgPads", spec := "kzgPads", inPlace := ["math/bits.Add64", "math/bits.Sub64"], unfollowed := true, recurses := true, apart := false, narrowed := true }
def KzgPadsUptoSaid : Prop := kzgPadsUptoRow.holds Tryz.pinned (OpenSpec.upto kzgPadsSpec)

/-- 'intagliolaw19.BatchChecks', WHERE WHAT IT READS IS OF BULK AT MOST 1048576: true; the input reads as it did. -/
def batchChecksUptoRow : OpenClaim := { program := "ytgpafcehehaiiaagreat", sum := "b3fd22a3c4447009b6429fc5db2b6a14d2849af15ce91d3c38cb492874aa37b1", func := "intaglio/intagliolaw19.BatchChecks", spec := "batchChecks", inPlace := ["math/bits.Add64", "math/bits.Sub64"], unfollowed := true, recurses := true, apart := false, narrowed := true }
def BatchChecksUptoSaid : Prop := batchChecksUptoRow.holds Tryz.pinned (OpenSpec.upto batchChecksSpec)

/-- 'intagliolaw19.BatchOne', WHERE WHAT IT READS IS OF BULK AT MOST 1048576: true; the input reads as it did. -/
def batchOneUptoRow : OpenClaim := { program := "ytgpafcehehaiiaagreat", sum := "b3fd22a3c4447009b6429fc5db2b6a14d2849af15ce91d3c38cb492874aa37b1", func := "intaglio/intagliolaw19.BatchOne", spec := "batchOne", inPlace := ["math/bits.Add64", "math/bits.Sub64"], unfollowed := true, recurses := true, apart := false, narrowed := true }
def BatchOneUptoSaid : Prop := batchOneUptoRow.holds Tryz.pinned (OpenSpec.upto batchOneSpec)

/-- 'intagliolaw19.BatchHonest', WHERE WHAT IT READS IS OF BULK AT MOST 1048576: true; the input reads as it did. -/
def batchHonestUptoRow : OpenClaim := { program := "ytgpafcehehaiiaagreat", sum := "b3fd22a3c4447009b6429fc5db2b6a14d2849af15ce91d3c38cb492874aa37b1", func := "intaglio/intagliolaw19.BatchHonest", spec := "batchHonest", inPlace := ["math/bits.Add64", "math/bits.Sub64"], unfollowed := true, recurses := true, apart := false, narrowed := true }
def BatchHonestUptoSaid : Prop := batchHonestUptoRow.holds Tryz.pinned (OpenSpec.upto batchHonestSpec)

end Rows
end Go.Proofs.YtgpafcehehaiiaaGreat
