/-
  No cell of these rows narrows 'for every input' (looked for: loops, veiled, ifaces, maps, wideKeys, modest, calm, conditions, laid).
  DERIVED. THE GIVEN ROWS OF THIS SEAT. 12 by the template 'for every input the law returns true; each argument reads behind the call as it read before'; 0 by the template 'total and deterministic' (their statements: YthbmbbbojpdlaaaTotals.lean).
  GIVEN WITH THE SEED: the statements are not yours to turn. If you find one false, say at which input.
  Laid BY PROGRAM, IN A SANDBOX (cutbox-rows.mjs): the forced cells as the released guide's own fill.sh prints them over the translation da6b70466527df35… (all of the seat's roots in one cut). By AI agents, Wed Nov 11 2026. No macro, syntax, notation, axiom, sorry.
-/
import Derived.Test.YthbmbbbojpdlaaaChecked
import GoSem.Claim
import GoSem.ClaimJoined
import GoSem.ClaimMapViews
import Derived.JoinedTies
import Derived.KernelRfl
namespace Go.Proofs.Ythbmbbbojpdlaaa
/- THE CELL 'sum', in the pinned program and in every row, IS THE sha256 OF THE DUMP (.gsa) THAT YthbmbbbojpdlaaaProg.lean LOADS. Nothing in Lean hashes anything: it is a label: what it is worth is what the hold of that sum in a sandbox is worth. -/
noncomputable def Try.pinned : Pinned := { name := "ythbmbbbojpdlaaa", sum := "da6b70466527df3543d6c4d4ce11faded24db183562b9ba0e13213e945be9ba3", checked := Try.checked }
namespace Rows
def none {H : Type} : Left H := { results := [], args := [] }

/-- 'strongboxlaw23.RootReads': WHATEVER THE INPUT: true; the input reads as it did. -/
def rootReadsSpec : ChangeSpec := { name := "rootReads", fn := fun _ => fun
  | [d] => { results := [.lit (.bool true)], args := [d] }
  | _ => none }
def rootReadsRow : OpenClaim := { program := "ythbmbbbojpdlaaa", sum := "da6b70466527df3543d6c4d4ce11faded24db183562b9ba0e13213e945be9ba3", func := "strongbox/strongboxlaw23.RootReads", spec := "rootReads", unfollowed := true, recurses := true, apart := false }
def RootReadsSaid : Prop := rootReadsRow.holds Try.pinned (OpenSpec.ofChange rootReadsSpec)

/-- ITS FALSE NEIGHBOUR: 'it returns false'. Refute it at one input. -/
def rootReadsWrong : ChangeSpec := { name := "rootReads", fn := fun _ => fun
  | [d] => { results := [.lit (.bool false)], args := [d] }
  | _ => none }
def RootReadsWrongFalsely : Prop := rootReadsRow.holds Try.pinned (OpenSpec.ofChange rootReadsWrong)

/-- 'strongboxlaw23.RootMakes': WHATEVER THE INPUT: true; the input reads as it did. -/
def rootMakesSpec : ChangeSpec := { name := "rootMakes", fn := fun _ => fun
  | [d1, d2] => { results := [.lit (.bool true)], args := [d1, d2] }
  | _ => none }
def rootMakesRow : OpenClaim := { program := "ythbmbbbojpdlaaa", sum := "da6b70466527df3543d6c4d4ce11faded24db183562b9ba0e13213e945be9ba3", func := "strongbox/strongboxlaw23.RootMakes", spec := "rootMakes", inPlace := ["internal/abi.NoEscape"], unfollowed := true, recurses := true, apart := false }
def RootMakesSaid : Prop := rootMakesRow.holds Try.pinned (OpenSpec.ofChange rootMakesSpec)

/-- ITS FALSE NEIGHBOUR: 'it returns false'. Refute it at one input. -/
def rootMakesWrong : ChangeSpec := { name := "rootMakes", fn := fun _ => fun
  | [d1, d2] => { results := [.lit (.bool false)], args := [d1, d2] }
  | _ => none }
def RootMakesWrongFalsely : Prop := rootMakesRow.holds Try.pinned (OpenSpec.ofChange rootMakesWrong)

/-- 'strongboxlaw23.RootOne': WHATEVER THE INPUT: true; the input reads as it did. -/
def rootOneSpec : ChangeSpec := { name := "rootOne", fn := fun _ => fun
  | [d1, d2] => { results := [.lit (.bool true)], args := [d1, d2] }
  | _ => none }
def rootOneRow : OpenClaim := { program := "ythbmbbbojpdlaaa", sum := "da6b70466527df3543d6c4d4ce11faded24db183562b9ba0e13213e945be9ba3", func := "strongbox/strongboxlaw23.RootOne", spec := "rootOne", inPlace := ["internal/abi.NoEscape"], unfollowed := true, recurses := true, apart := false }
def RootOneSaid : Prop := rootOneRow.holds Try.pinned (OpenSpec.ofChange rootOneSpec)

/-- ITS FALSE NEIGHBOUR: 'it returns false'. Refute it at one input. -/
def rootOneWrong : ChangeSpec := { name := "rootOne", fn := fun _ => fun
  | [d1, d2] => { results := [.lit (.bool false)], args := [d1, d2] }
  | _ => none }
def RootOneWrongFalsely : Prop := rootOneRow.holds Try.pinned (OpenSpec.ofChange rootOneWrong)

/-- 'strongboxlaw23.RootBack': WHATEVER THE INPUT: true; the input reads as it did. -/
def rootBackSpec : ChangeSpec := { name := "rootBack", fn := fun _ => fun
  | [d1, d2, d3] => { results := [.lit (.bool true)], args := [d1, d2, d3] }
  | _ => none }
def rootBackRow : OpenClaim := { program := "ythbmbbbojpdlaaa", sum := "da6b70466527df3543d6c4d4ce11faded24db183562b9ba0e13213e945be9ba3", func := "strongbox/strongboxlaw23.RootBack", spec := "rootBack", inPlace := ["internal/abi.NoEscape"], unfollowed := true, recurses := true, apart := false }
def RootBackSaid : Prop := rootBackRow.holds Try.pinned (OpenSpec.ofChange rootBackSpec)

/-- ITS FALSE NEIGHBOUR: 'it returns false'. Refute it at one input. -/
def rootBackWrong : ChangeSpec := { name := "rootBack", fn := fun _ => fun
  | [d1, d2, d3] => { results := [.lit (.bool false)], args := [d1, d2, d3] }
  | _ => none }
def RootBackWrongFalsely : Prop := rootBackRow.holds Try.pinned (OpenSpec.ofChange rootBackWrong)

/-- 'strongboxlaw23.RootNames': WHATEVER THE INPUT: true; the input reads as it did. -/
def rootNamesSpec : ChangeSpec := { name := "rootNames", fn := fun _ => fun
  | [] => { results := [.lit (.bool true)], args := [] }
  | _ => none }
def rootNamesRow : OpenClaim := { program := "ythbmbbbojpdlaaa", sum := "da6b70466527df3543d6c4d4ce11faded24db183562b9ba0e13213e945be9ba3", func := "strongbox/strongboxlaw23.RootNames", spec := "rootNames", inPlace := ["internal/abi.NoEscape"], unfollowed := true, recurses := true, apart := false }
def RootNamesSaid : Prop := rootNamesRow.holds Try.pinned (OpenSpec.ofChange rootNamesSpec)

/-- ITS FALSE NEIGHBOUR: 'it returns false'. Refute it at one input. -/
def rootNamesWrong : ChangeSpec := { name := "rootNames", fn := fun _ => fun
  | [] => { results := [.lit (.bool false)], args := [] }
  | _ => none }
def RootNamesWrongFalsely : Prop := rootNamesRow.holds Try.pinned (OpenSpec.ofChange rootNamesWrong)

/-- 'strongboxlaw23.RootCut': WHATEVER THE INPUT: true; the input reads as it did. -/
def rootCutSpec : ChangeSpec := { name := "rootCut", fn := fun _ => fun
  | [d1, d2, d3] => { results := [.lit (.bool true)], args := [d1, d2, d3] }
  | _ => none }
def rootCutRow : OpenClaim := { program := "ythbmbbbojpdlaaa", sum := "da6b70466527df3543d6c4d4ce11faded24db183562b9ba0e13213e945be9ba3", func := "strongbox/strongboxlaw23.RootCut", spec := "rootCut", inPlace := ["internal/abi.NoEscape"], unfollowed := true, recurses := true, apart := false }
def RootCutSaid : Prop := rootCutRow.holds Try.pinned (OpenSpec.ofChange rootCutSpec)

/-- ITS FALSE NEIGHBOUR: 'it returns false'. Refute it at one input. -/
def rootCutWrong : ChangeSpec := { name := "rootCut", fn := fun _ => fun
  | [d1, d2, d3] => { results := [.lit (.bool false)], args := [d1, d2, d3] }
  | _ => none }
def RootCutWrongFalsely : Prop := rootCutRow.holds Try.pinned (OpenSpec.ofChange rootCutWrong)

/-- 'strongboxlaw17.IndexFinds': WHATEVER THE INPUT: true; the input reads as it did. -/
def indexFindsSpec : ChangeSpec := { name := "indexFinds", fn := fun _ => fun
  | [d1, d2] => { results := [.lit (.bool true)], args := [d1, d2] }
  | _ => none }
def indexFindsRow : OpenClaim := { program := "ythbmbbbojpdlaaa", sum := "da6b70466527df3543d6c4d4ce11faded24db183562b9ba0e13213e945be9ba3", func := "strongbox/strongboxlaw17.IndexFinds", spec := "indexFinds", unfollowed := true, recurses := true, apart := false }
def IndexFindsSaid : Prop := indexFindsRow.holds Try.pinned (OpenSpec.ofChange indexFindsSpec)

/-- ITS FALSE NEIGHBOUR: 'it returns false'. Refute it at one input. -/
def indexFindsWrong : ChangeSpec := { name := "indexFinds", fn := fun _ => fun
  | [d1, d2] => { results := [.lit (.bool false)], args := [d1, d2] }
  | _ => none }
def IndexFindsWrongFalsely : Prop := indexFindsRow.holds Try.pinned (OpenSpec.ofChange indexFindsWrong)

/-- 'strongboxlaw17.IndexChanges': WHATEVER THE INPUT: true; the input reads as it did. -/
def indexChangesSpec : ChangeSpec := { name := "indexChanges", fn := fun _ => fun
  | [d1, d2, d3] => { results := [.lit (.bool true)], args := [d1, d2, d3] }
  | _ => none }
def indexChangesRow : OpenClaim := { program := "ythbmbbbojpdlaaa", sum := "da6b70466527df3543d6c4d4ce11faded24db183562b9ba0e13213e945be9ba3", func := "strongbox/strongboxlaw17.IndexChanges", spec := "indexChanges", inPlace := ["slices.overlaps[string]", "slices.overlaps[strongbox/api.Place]"], unfollowed := true, recurses := true, apart := false }
def IndexChangesSaid : Prop := indexChangesRow.holds Try.pinned (OpenSpec.ofChange indexChangesSpec)

/-- ITS FALSE NEIGHBOUR: 'it returns false'. Refute it at one input. -/
def indexChangesWrong : ChangeSpec := { name := "indexChanges", fn := fun _ => fun
  | [d1, d2, d3] => { results := [.lit (.bool false)], args := [d1, d2, d3] }
  | _ => none }
def IndexChangesWrongFalsely : Prop := indexChangesRow.holds Try.pinned (OpenSpec.ofChange indexChangesWrong)

/-- 'strongboxlaw17.IndexRow': WHATEVER THE INPUT: true; the input reads as it did. -/
def indexRowSpec : ChangeSpec := { name := "indexRow", fn := fun _ => fun
  | [d1, d2] => { results := [.lit (.bool true)], args := [d1, d2] }
  | _ => none }
def indexRowRow : OpenClaim := { program := "ythbmbbbojpdlaaa", sum := "da6b70466527df3543d6c4d4ce11faded24db183562b9ba0e13213e945be9ba3", func := "strongbox/strongboxlaw17.IndexRow", spec := "indexRow", inPlace := ["slices.overlaps[string]", "slices.overlaps[strongbox/api.Place]"], unfollowed := true, recurses := true, apart := false }
def IndexRowSaid : Prop := indexRowRow.holds Try.pinned (OpenSpec.ofChange indexRowSpec)

/-- ITS FALSE NEIGHBOUR: 'it returns false'. Refute it at one input. -/
def indexRowWrong : ChangeSpec := { name := "indexRow", fn := fun _ => fun
  | [d1, d2] => { results := [.lit (.bool false)], args := [d1, d2] }
  | _ => none }
def IndexRowWrongFalsely : Prop := indexRowRow.holds Try.pinned (OpenSpec.ofChange indexRowWrong)

/-- 'strongboxlaw17.IndexNames': WHATEVER THE INPUT: true; the input reads as it did. -/
def indexNamesSpec : ChangeSpec := { name := "indexNames", fn := fun _ => fun
  | [] => { results := [.lit (.bool true)], args := [] }
  | _ => none }
def indexNamesRow : OpenClaim := { program := "ythbmbbbojpdlaaa", sum := "da6b70466527df3543d6c4d4ce11faded24db183562b9ba0e13213e945be9ba3", func := "strongbox/strongboxlaw17.IndexNames", spec := "indexNames", inPlace := ["slices.overlaps[string]", "slices.overlaps[strongbox/api.Place]"], unfollowed := true, recurses := true, apart := false }
def IndexNamesSaid : Prop := indexNamesRow.holds Try.pinned (OpenSpec.ofChange indexNamesSpec)

/-- ITS FALSE NEIGHBOUR: 'it returns false'. Refute it at one input. -/
def indexNamesWrong : ChangeSpec := { name := "indexNames", fn := fun _ => fun
  | [] => { results := [.lit (.bool false)], args := [] }
  | _ => none }
def IndexNamesWrongFalsely : Prop := indexNamesRow.holds Try.pinned (OpenSpec.ofChange indexNamesWrong)

/-- 'strongboxlaw17.IndexStays': WHATEVER THE INPUT: true; the input reads as it did. -/
def indexStaysSpec : ChangeSpec := { name := "indexStays", fn := fun _ => fun
  | [d1, d2, d3] => { results := [.lit (.bool true)], args := [d1, d2, d3] }
  | _ => none }
def indexStaysRow : OpenClaim := { program := "ythbmbbbojpdlaaa", sum := "da6b70466527df3543d6c4d4ce11faded24db183562b9ba0e13213e945be9ba3", func := "strongbox/strongboxlaw17.IndexStays", spec := "indexStays", inPlace := ["slices.overlaps[string]", "slices.overlaps[strongbox/api.Place]"], unfollowed := true, recurses := true, apart := false }
def IndexStaysSaid : Prop := indexStaysRow.holds Try.pinned (OpenSpec.ofChange indexStaysSpec)

/-- ITS FALSE NEIGHBOUR: 'it returns false'. Refute it at one input. -/
def indexStaysWrong : ChangeSpec := { name := "indexStays", fn := fun _ => fun
  | [d1, d2, d3] => { results := [.lit (.bool false)], args := [d1, d2, d3] }
  | _ => none }
def IndexStaysWrongFalsely : Prop := indexStaysRow.holds Try.pinned (OpenSpec.ofChange indexStaysWrong)

/-- 'strongboxlaw17.IndexSteps': WHATEVER THE INPUT: true; the input reads as it did. -/
def indexStepsSpec : ChangeSpec := { name := "indexSteps", fn := fun _ => fun
  | [d1, d2, d3, d4, d5] => { results := [.lit (.bool true)], args := [d1, d2, d3, d4, d5] }
  | _ => none }
def indexStepsRow : OpenClaim := { program := "ythbmbbbojpdlaaa", sum := "da6b70466527df3543d6c4d4ce11faded24db183562b9ba0e13213e945be9ba3", func := "strongbox/strongboxlaw17.IndexSteps", spec := "indexSteps", inPlace := ["slices.overlaps[string]", "slices.overlaps[strongbox/api.Place]"], unfollowed := true, recurses := true, apart := false }
def IndexStepsSaid : Prop := indexStepsRow.holds Try.pinned (OpenSpec.ofChange indexStepsSpec)

/-- ITS FALSE NEIGHBOUR: 'it returns false'. Refute it at one input. -/
def indexStepsWrong : ChangeSpec := { name := "indexSteps", fn := fun _ => fun
  | [d1, d2, d3, d4, d5] => { results := [.lit (.bool false)], args := [d1, d2, d3, d4, d5] }
  | _ => none }
def IndexStepsWrongFalsely : Prop := indexStepsRow.holds Try.pinned (OpenSpec.ofChange indexStepsWrong)

/- THE SECOND FORM. 'bulk': how many values and letters a reading holds, each counted each time it is reached (what is shared counts as often as it is met; a slice's spare places count too). A statement '..UptoSaid' is the law's where the arguments, and the package variables that the reading takes, are together of bulk at most 1048576: NARROWER than '..Said'. Prove '..Said' where nothing that the law and all that it calls make is longer than what came in: it says more and counts as full. Else prove '..UptoSaid'. A law counts once. -/
mutual
def uptoBulk {H : Type} : DataW H → Nat
  | .lit (.string bytes) => bytes.length + 1
  | .lit _ => 1
  | .nil => 1
  | .ptr d => uptoBulk d + 1
  | .slice elems spare => uptoBulkAll elems + uptoBulkAll spare + 1
  | .agg parts => uptoBulkAll parts + 1
  | .iface _ d => uptoBulk d + 1
  | .map entries => uptoBulkEntries entries + 1
  | .held _ => 1
def uptoBulkAll {H : Type} : List (DataW H) → Nat
  | [] => 0
  | d :: r => uptoBulk d + uptoBulkAll r
def uptoBulkEntries {H : Type} : List (Lit × DataW H) → Nat
  | [] => 0
  | x :: r => uptoBulkEntry x + uptoBulkEntries r
def uptoBulkEntry {H : Type} : Lit × DataW H → Nat
  | (.string bytes, d) => bytes.length + uptoBulk d + 1
  | (_, d) => uptoBulk d + 1
 end
def uptoSmall : (H : Type) → List (DataW H) → Bool := fun _ ds => decide (uptoBulkAll ds ≤ 1048576)
def OpenSpec.upto (s : _root_.Go.ChangeSpec) : _root_.Go.OpenSpec := { _root_.Go.OpenSpec.ofChange s with cond := some uptoSmall }

/-- 'strongboxlaw23.RootReads', WHERE WHAT IT READS IS OF BULK AT MOST 1048576: true; the input reads as it did. -/
def rootReadsUptoRow : OpenClaim := { program := "ythbmbbbojpdlaaa", sum := "da6b70466527df3543d6c4d4ce11faded24db183562b9ba0e13213e945be9ba3", func := "strongbox/strongboxlaw23.RootReads", spec := "rootReads", unfollowed := true, recurses := true, apart := false, narrowed := true }
def RootReadsUptoSaid : Prop := rootReadsUptoRow.holds Try.pinned (OpenSpec.upto rootReadsSpec)

/-- 'strongboxlaw23.RootMakes', WHERE WHAT IT READS IS OF BULK AT MOST 1048576: true; the input reads as it did. -/
def rootMakesUptoRow : OpenClaim := { program := "ythbmbbbojpdlaaa", sum := "da6b70466527df3543d6c4d4ce11faded24db183562b9ba0e13213e945be9ba3", func := "strongbox/strongboxlaw23.RootMakes", spec := "rootMakes", inPlace := ["internal/abi.NoEscape"], unfollowed := true, recurses := true, apart := false, narrowed := true }
def RootMakesUptoSaid : Prop := rootMakesUptoRow.holds Try.pinned (OpenSpec.upto rootMakesSpec)

/-- 'strongboxlaw23.RootOne', WHERE WHAT IT READS IS OF BULK AT MOST 1048576: true; the input reads as it did. -/
def rootOneUptoRow : OpenClaim := { program := "ythbmbbbojpdlaaa", sum := "da6b70466527df3543d6c4d4ce11faded24db183562b9ba0e13213e945be9ba3", func := "strongbox/strongboxlaw23.RootOne", spec := "rootOne", inPlace := ["internal/abi.NoEscape"], unfollowed := true, recurses := true, apart := false, narrowed := true }
def RootOneUptoSaid : Prop := rootOneUptoRow.holds Try.pinned (OpenSpec.upto rootOneSpec)

/-- 'strongboxlaw23.RootBack', WHERE WHAT IT READS IS OF BULK AT MOST 1048576: true; the input reads as it did. -/
def rootBackUptoRow : OpenClaim := { program := "ythbmbbbojpdlaaa", sum := "da6b70466527df3543d6c4d4ce11faded24db183562b9ba0e13213e945be9ba3", func := "strongbox/strongboxlaw23.RootBack", spec := "rootBack", inPlace := ["internal/abi.NoEscape"], unfollowed := true, recurses := true, apart := false, narrowed := true }
def RootBackUptoSaid : Prop := rootBackUptoRow.holds Try.pinned (OpenSpec.upto rootBackSpec)

/-- 'strongboxlaw23.RootNames', WHERE WHAT IT READS IS OF BULK AT MOST 1048576: true; the input reads as it did. -/
def rootNamesUptoRow : OpenClaim := { program := "ythbmbbbojpdlaaa", sum := "da6b70466527df3543d6c4d4ce11faded24db183562b9ba0e13213e945be9ba3", func := "strongbox/strongboxlaw23.RootNames", spec := "rootNames", inPlace := ["internal/abi.NoEscape"], unfollowed := true, recurses := true, apart := false, narrowed := true }
def RootNamesUptoSaid : Prop := rootNamesUptoRow.holds Try.pinned (OpenSpec.upto rootNamesSpec)

/-- 'strongboxlaw23.RootCut', WHERE WHAT IT READS IS OF BULK AT MOST 1048576: true; the input reads as it did. -/
def rootCutUptoRow : OpenClaim := { program := "ythbmbbbojpdlaaa", sum := "da6b70466527df3543d6c4d4ce11faded24db183562b9ba0e13213e945be9ba3", func := "strongbox/strongboxlaw23.RootCut", spec := "rootCut", inPlace := ["internal/abi.NoEscape"], unfollowed := true, recurses := true, apart := false, narrowed := true }
def RootCutUptoSaid : Prop := rootCutUptoRow.holds Try.pinned (OpenSpec.upto rootCutSpec)

/-- 'strongboxlaw17.IndexFinds', WHERE WHAT IT READS IS OF BULK AT MOST 1048576: true; the input reads as it did. -/
def indexFindsUptoRow : OpenClaim := { program := "ythbmbbbojpdlaaa", sum := "da6b70466527df3543d6c4d4ce11faded24db183562b9ba0e13213e945be9ba3", func := "strongbox/strongboxlaw17.IndexFinds", spec := "indexFinds", unfollowed := true, recurses := true, apart := false, narrowed := true }
def IndexFindsUptoSaid : Prop := indexFindsUptoRow.holds Try.pinned (OpenSpec.upto indexFindsSpec)

/-- 'strongboxlaw17.IndexChanges', WHERE WHAT IT READS IS OF BULK AT MOST 1048576: true; the input reads as it did. -/
def indexChangesUptoRow : OpenClaim := { program := "ythbmbbbojpdlaaa", sum := "da6b70466527df3543d6c4d4ce11faded24db183562b9ba0e13213e945be9ba3", func := "strongbox/strongboxlaw17.IndexChanges", spec := "indexChanges", inPlace := ["slices.overlaps[string]", "slices.overlaps[strongbox/api.Place]"], unfollowed := true, recurses := true, apart := false, narrowed := true }
def IndexChangesUptoSaid : Prop := indexChangesUptoRow.holds Try.pinned (OpenSpec.upto indexChangesSpec)

/-- 'strongboxlaw17.IndexRow', WHERE WHAT IT READS IS OF BULK AT MOST 1048576: true; the input reads as it did. -/
def indexRowUptoRow : OpenClaim := { program := "ythbmbbbojpdlaaa", sum := "da6b70466527df3543d6c4d4ce11faded24db183562b9ba0e13213e945be9ba3", func := "strongbox/strongboxlaw17.IndexRow", spec := "indexRow", inPlace := ["slices.overlaps[string]", "slices.overlaps[strongbox/api.Place]"], unfollowed := true, recurses := true, apart := false, narrowed := true }
def IndexRowUptoSaid : Prop := indexRowUptoRow.holds Try.pinned (OpenSpec.upto indexRowSpec)

/-- 'strongboxlaw17.IndexNames', WHERE WHAT IT READS IS OF BULK AT MOST 1048576: true; the input reads as it did. -/
def indexNamesUptoRow : OpenClaim := { program := "ythbmbbbojpdlaaa", sum := "da6b70466527df3543d6c4d4ce11faded24db183562b9ba0e13213e945be9ba3", func := "strongbox/strongboxlaw17.IndexNames", spec := "indexNames", inPlace := ["slices.overlaps[string]", "slices.overlaps[strongbox/api.Place]"], unfollowed := true, recurses := true, apart := false, narrowed := true }
def IndexNamesUptoSaid : Prop := indexNamesUptoRow.holds Try.pinned (OpenSpec.upto indexNamesSpec)

/-- 'strongboxlaw17.IndexStays', WHERE WHAT IT READS IS OF BULK AT MOST 1048576: true; the input reads as it did. -/
def indexStaysUptoRow : OpenClaim := { program := "ythbmbbbojpdlaaa", sum := "da6b70466527df3543d6c4d4ce11faded24db183562b9ba0e13213e945be9ba3", func := "strongbox/strongboxlaw17.IndexStays", spec := "indexStays", inPlace := ["slices.overlaps[string]", "slices.overlaps[strongbox/api.Place]"], unfollowed := true, recurses := true, apart := false, narrowed := true }
def IndexStaysUptoSaid : Prop := indexStaysUptoRow.holds Try.pinned (OpenSpec.upto indexStaysSpec)

/-- 'strongboxlaw17.IndexSteps', WHERE WHAT IT READS IS OF BULK AT MOST 1048576: true; the input reads as it did. -/
def indexStepsUptoRow : OpenClaim := { program := "ythbmbbbojpdlaaa", sum := "da6b70466527df3543d6c4d4ce11faded24db183562b9ba0e13213e945be9ba3", func := "strongbox/strongboxlaw17.IndexSteps", spec := "indexSteps", inPlace := ["slices.overlaps[string]", "slices.overlaps[strongbox/api.Place]"], unfollowed := true, recurses := true, apart := false, narrowed := true }
def IndexStepsUptoSaid : Prop := indexStepsUptoRow.holds Try.pinned (OpenSpec.upto indexStepsSpec)

end Rows
end Go.Proofs.Ythbmbbbojpdlaaa
