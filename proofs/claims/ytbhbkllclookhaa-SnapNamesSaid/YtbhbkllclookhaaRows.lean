/-
  No cell of these rows narrows 'for every input' (looked for: loops, veiled, ifaces, maps, wideKeys, modest, calm, conditions, laid).
  DERIVED. THE GIVEN ROWS OF THIS SEAT. 12 by the template 'for every input the law returns true; each argument reads behind the call as it read before'; 0 by the template 'total and deterministic' (their statements: YtbhbkllclookhaaTotals.lean).
  GIVEN WITH THE SEED: the statements are not yours to turn. If you find one false, say at which input.
  Laid BY PROGRAM, IN A SANDBOX (cutbox-rows.mjs): the forced cells as the released guide's own fill.sh prints them over the translation 384d24d53961a0e5… (all of the seat's roots in one cut). By AI agents, Wed Nov 11 2026. No macro, syntax, notation, axiom, sorry.
-/
import Derived.Test.YtbhbkllclookhaaChecked
import GoSem.Claim
import GoSem.ClaimJoined
import GoSem.ClaimMapViews
import Derived.JoinedTies
import Derived.KernelRfl
namespace Go.Proofs.Ytbhbkllclookhaa
/- THE CELL 'sum', in the pinned program and in every row, IS THE sha256 OF THE DUMP (.gsa) THAT YtbhbkllclookhaaProg.lean LOADS. Nothing in Lean hashes anything: it is a label: what it is worth is what the hold of that sum in a sandbox is worth. -/
noncomputable def Try.pinned : Pinned := { name := "ytbhbkllclookhaa", sum := "384d24d53961a0e50bf4d78d28b477931435085465de5b65cccc727f9196e207", checked := Try.checked }
namespace Rows
def none {H : Type} : Left H := { results := [], args := [] }

/-- 'strongboxlaw21.SnapMore': WHATEVER THE INPUT: true; the input reads as it did. -/
def snapMoreSpec : ChangeSpec := { name := "snapMore", fn := fun _ => fun
  | [d1, d2] => { results := [.lit (.bool true)], args := [d1, d2] }
  | _ => none }
def snapMoreRow : OpenClaim := { program := "ytbhbkllclookhaa", sum := "384d24d53961a0e50bf4d78d28b477931435085465de5b65cccc727f9196e207", func := "strongbox/strongboxlaw21.SnapMore", spec := "snapMore", unfollowed := true, recurses := true, apart := false }
def SnapMoreSaid : Prop := snapMoreRow.holds Try.pinned (OpenSpec.ofChange snapMoreSpec)

/-- ITS FALSE NEIGHBOUR: 'it returns false'. Refute it at one input. -/
def snapMoreWrong : ChangeSpec := { name := "snapMore", fn := fun _ => fun
  | [d1, d2] => { results := [.lit (.bool false)], args := [d1, d2] }
  | _ => none }
def SnapMoreWrongFalsely : Prop := snapMoreRow.holds Try.pinned (OpenSpec.ofChange snapMoreWrong)

/-- 'strongboxlaw21.SnapStays': WHATEVER THE INPUT: true; the input reads as it did. -/
def snapStaysSpec : ChangeSpec := { name := "snapStays", fn := fun _ => fun
  | [d1, d2, d3, d4] => { results := [.lit (.bool true)], args := [d1, d2, d3, d4] }
  | _ => none }
def snapStaysRow : OpenClaim := { program := "ytbhbkllclookhaa", sum := "384d24d53961a0e50bf4d78d28b477931435085465de5b65cccc727f9196e207", func := "strongbox/strongboxlaw21.SnapStays", spec := "snapStays", unfollowed := true, recurses := true, apart := false }
def SnapStaysSaid : Prop := snapStaysRow.holds Try.pinned (OpenSpec.ofChange snapStaysSpec)

/-- ITS FALSE NEIGHBOUR: 'it returns false'. Refute it at one input. -/
def snapStaysWrong : ChangeSpec := { name := "snapStays", fn := fun _ => fun
  | [d1, d2, d3, d4] => { results := [.lit (.bool false)], args := [d1, d2, d3, d4] }
  | _ => none }
def SnapStaysWrongFalsely : Prop := snapStaysRow.holds Try.pinned (OpenSpec.ofChange snapStaysWrong)

/-- 'strongboxlaw21.SnapRoots': WHATEVER THE INPUT: true; the input reads as it did. -/
def snapRootsSpec : ChangeSpec := { name := "snapRoots", fn := fun _ => fun
  | [d1, d2] => { results := [.lit (.bool true)], args := [d1, d2] }
  | _ => none }
def snapRootsRow : OpenClaim := { program := "ytbhbkllclookhaa", sum := "384d24d53961a0e50bf4d78d28b477931435085465de5b65cccc727f9196e207", func := "strongbox/strongboxlaw21.SnapRoots", spec := "snapRoots", unfollowed := true, recurses := true, apart := false }
def SnapRootsSaid : Prop := snapRootsRow.holds Try.pinned (OpenSpec.ofChange snapRootsSpec)

/-- ITS FALSE NEIGHBOUR: 'it returns false'. Refute it at one input. -/
def snapRootsWrong : ChangeSpec := { name := "snapRoots", fn := fun _ => fun
  | [d1, d2] => { results := [.lit (.bool false)], args := [d1, d2] }
  | _ => none }
def SnapRootsWrongFalsely : Prop := snapRootsRow.holds Try.pinned (OpenSpec.ofChange snapRootsWrong)

/-- 'strongboxlaw21.SnapNames': WHATEVER THE INPUT: true; the input reads as it did. -/
def snapNamesSpec : ChangeSpec := { name := "snapNames", fn := fun _ => fun
  | [] => { results := [.lit (.bool true)], args := [] }
  | _ => none }
def snapNamesRow : OpenClaim := { program := "ytbhbkllclookhaa", sum := "384d24d53961a0e50bf4d78d28b477931435085465de5b65cccc727f9196e207", func := "strongbox/strongboxlaw21.SnapNames", spec := "snapNames", unfollowed := true, recurses := true, apart := false }
def SnapNamesSaid : Prop := snapNamesRow.holds Try.pinned (OpenSpec.ofChange snapNamesSpec)

/-- ITS FALSE NEIGHBOUR: 'it returns false'. Refute it at one input. -/
def snapNamesWrong : ChangeSpec := { name := "snapNames", fn := fun _ => fun
  | [] => { results := [.lit (.bool false)], args := [] }
  | _ => none }
def SnapNamesWrongFalsely : Prop := snapNamesRow.holds Try.pinned (OpenSpec.ofChange snapNamesWrong)

/-- 'strongboxlaw21.SnapDoes': WHATEVER THE INPUT: true; the input reads as it did. -/
def snapDoesSpec : ChangeSpec := { name := "snapDoes", fn := fun _ => fun
  | [d1, d2, d3] => { results := [.lit (.bool true)], args := [d1, d2, d3] }
  | _ => none }
def snapDoesRow : OpenClaim := { program := "ytbhbkllclookhaa", sum := "384d24d53961a0e50bf4d78d28b477931435085465de5b65cccc727f9196e207", func := "strongbox/strongboxlaw21.SnapDoes", spec := "snapDoes", unfollowed := true, recurses := true, apart := false }
def SnapDoesSaid : Prop := snapDoesRow.holds Try.pinned (OpenSpec.ofChange snapDoesSpec)

/-- ITS FALSE NEIGHBOUR: 'it returns false'. Refute it at one input. -/
def snapDoesWrong : ChangeSpec := { name := "snapDoes", fn := fun _ => fun
  | [d1, d2, d3] => { results := [.lit (.bool false)], args := [d1, d2, d3] }
  | _ => none }
def SnapDoesWrongFalsely : Prop := snapDoesRow.holds Try.pinned (OpenSpec.ofChange snapDoesWrong)

/-- 'strongboxlaw23.RootReads': WHATEVER THE INPUT: true; the input reads as it did. -/
def rootReadsSpec : ChangeSpec := { name := "rootReads", fn := fun _ => fun
  | [d] => { results := [.lit (.bool true)], args := [d] }
  | _ => none }
def rootReadsRow : OpenClaim := { program := "ytbhbkllclookhaa", sum := "384d24d53961a0e50bf4d78d28b477931435085465de5b65cccc727f9196e207", func := "strongbox/strongboxlaw23.RootReads", spec := "rootReads", unfollowed := true, recurses := true, apart := false }
def RootReadsSaid : Prop := rootReadsRow.holds Try.pinned (OpenSpec.ofChange rootReadsSpec)

/-- ITS FALSE NEIGHBOUR: 'it returns false'. Refute it at one input. -/
def rootReadsWrong : ChangeSpec := { name := "rootReads", fn := fun _ => fun
  | [d] => { results := [.lit (.bool false)], args := [d] }
  | _ => none }
def RootReadsWrongFalsely : Prop := rootReadsRow.holds Try.pinned (OpenSpec.ofChange rootReadsWrong)

/-- 'strongboxlaw23.RootMakes': WHATEVER THE INPUT: true; the input reads as it did. -/
def rootMakesSpec : ChangeSpec := { name := "rootMakes", fn := fun _ => fun
  | [d1, d2] => { results := [.lit (.bool true)], args := [d1, d2] }
  | _ => none }
def rootMakesRow : OpenClaim := { program := "ytbhbkllclookhaa", sum := "384d24d53961a0e50bf4d78d28b477931435085465de5b65cccc727f9196e207", func := "strongbox/strongboxlaw23.RootMakes", spec := "rootMakes", inPlace := ["internal/abi.NoEscape"], unfollowed := true, recurses := true, apart := false }
def RootMakesSaid : Prop := rootMakesRow.holds Try.pinned (OpenSpec.ofChange rootMakesSpec)

/-- ITS FALSE NEIGHBOUR: 'it returns false'. Refute it at one input. -/
def rootMakesWrong : ChangeSpec := { name := "rootMakes", fn := fun _ => fun
  | [d1, d2] => { results := [.lit (.bool false)], args := [d1, d2] }
  | _ => none }
def RootMakesWrongFalsely : Prop := rootMakesRow.holds Try.pinned (OpenSpec.ofChange rootMakesWrong)

/-- 'strongboxlaw23.RootOne': WHATEVER THE INPUT: true; the input reads as it did. -/
def rootOneSpec : ChangeSpec := { name := "rootOne", fn := fun _ => fun
  | [d1, d2] => { results := [.lit (.bool true)], args := [d1, d2] }
  | _ => none }
def rootOneRow : OpenClaim := { program := "ytbhbkllclookhaa", sum := "384d24d53961a0e50bf4d78d28b477931435085465de5b65cccc727f9196e207", func := "strongbox/strongboxlaw23.RootOne", spec := "rootOne", inPlace := ["internal/abi.NoEscape"], unfollowed := true, recurses := true, apart := false }
def RootOneSaid : Prop := rootOneRow.holds Try.pinned (OpenSpec.ofChange rootOneSpec)

/-- ITS FALSE NEIGHBOUR: 'it returns false'. Refute it at one input. -/
def rootOneWrong : ChangeSpec := { name := "rootOne", fn := fun _ => fun
  | [d1, d2] => { results := [.lit (.bool false)], args := [d1, d2] }
  | _ => none }
def RootOneWrongFalsely : Prop := rootOneRow.holds Try.pinned (OpenSpec.ofChange rootOneWrong)

/-- 'strongboxlaw23.RootBack': WHATEVER THE INPUT: true; the input reads as it did. -/
def rootBackSpec : ChangeSpec := { name := "rootBack", fn := fun _ => fun
  | [d1, d2, d3] => { results := [.lit (.bool true)], args := [d1, d2, d3] }
  | _ => none }
def rootBackRow : OpenClaim := { program := "ytbhbkllclookhaa", sum := "384d24d53961a0e50bf4d78d28b477931435085465de5b65cccc727f9196e207", func := "strongbox/strongboxlaw23.RootBack", spec := "rootBack", inPlace := ["internal/abi.NoEscape"], unfollowed := true, recurses := true, apart := false }
def RootBackSaid : Prop := rootBackRow.holds Try.pinned (OpenSpec.ofChange rootBackSpec)

/-- ITS FALSE NEIGHBOUR: 'it returns false'. Refute it at one input. -/
def rootBackWrong : ChangeSpec := { name := "rootBack", fn := fun _ => fun
  | [d1, d2, d3] => { results := [.lit (.bool false)], args := [d1, d2, d3] }
  | _ => none }
def RootBackWrongFalsely : Prop := rootBackRow.holds Try.pinned (OpenSpec.ofChange rootBackWrong)

/-- 'strongboxlaw23.RootNames': WHATEVER THE INPUT: true; the input reads as it did. -/
def rootNamesSpec : ChangeSpec := { name := "rootNames", fn := fun _ => fun
  | [] => { results := [.lit (.bool true)], args := [] }
  | _ => none }
def rootNamesRow : OpenClaim := { program := "ytbhbkllclookhaa", sum := "384d24d53961a0e50bf4d78d28b477931435085465de5b65cccc727f9196e207", func := "strongbox/strongboxlaw23.RootNames", spec := "rootNames", inPlace := ["internal/abi.NoEscape"], unfollowed := true, recurses := true, apart := false }
def RootNamesSaid : Prop := rootNamesRow.holds Try.pinned (OpenSpec.ofChange rootNamesSpec)

/-- ITS FALSE NEIGHBOUR: 'it returns false'. Refute it at one input. -/
def rootNamesWrong : ChangeSpec := { name := "rootNames", fn := fun _ => fun
  | [] => { results := [.lit (.bool false)], args := [] }
  | _ => none }
def RootNamesWrongFalsely : Prop := rootNamesRow.holds Try.pinned (OpenSpec.ofChange rootNamesWrong)

/-- 'strongboxlaw23.RootCut': WHATEVER THE INPUT: true; the input reads as it did. -/
def rootCutSpec : ChangeSpec := { name := "rootCut", fn := fun _ => fun
  | [d1, d2, d3] => { results := [.lit (.bool true)], args := [d1, d2, d3] }
  | _ => none }
def rootCutRow : OpenClaim := { program := "ytbhbkllclookhaa", sum := "384d24d53961a0e50bf4d78d28b477931435085465de5b65cccc727f9196e207", func := "strongbox/strongboxlaw23.RootCut", spec := "rootCut", inPlace := ["internal/abi.NoEscape"], unfollowed := true, recurses := true, apart := false }
def RootCutSaid : Prop := rootCutRow.holds Try.pinned (OpenSpec.ofChange rootCutSpec)

/-- ITS FALSE NEIGHBOUR: 'it returns false'. Refute it at one input. -/
def rootCutWrong : ChangeSpec := { name := "rootCut", fn := fun _ => fun
  | [d1, d2, d3] => { results := [.lit (.bool false)], args := [d1, d2, d3] }
  | _ => none }
def RootCutWrongFalsely : Prop := rootCutRow.holds Try.pinned (OpenSpec.ofChange rootCutWrong)

/-- 'strongboxlaw17.IndexFinds': WHATEVER THE INPUT: true; the input reads as it did. -/
def indexFindsSpec : ChangeSpec := { name := "indexFinds", fn := fun _ => fun
  | [d1, d2] => { results := [.lit (.bool true)], args := [d1, d2] }
  | _ => none }
def indexFindsRow : OpenClaim := { program := "ytbhbkllclookhaa", sum := "384d24d53961a0e50bf4d78d28b477931435085465de5b65cccc727f9196e207", func := "strongbox/strongboxlaw17.IndexFinds", spec := "indexFinds", unfollowed := true, recurses := true, apart := false }
def IndexFindsSaid : Prop := indexFindsRow.holds Try.pinned (OpenSpec.ofChange indexFindsSpec)

/-- ITS FALSE NEIGHBOUR: 'it returns false'. Refute it at one input. -/
def indexFindsWrong : ChangeSpec := { name := "indexFinds", fn := fun _ => fun
  | [d1, d2] => { results := [.lit (.bool false)], args := [d1, d2] }
  | _ => none }
def IndexFindsWrongFalsely : Prop := indexFindsRow.holds Try.pinned (OpenSpec.ofChange indexFindsWrong)

/- THE SECOND FORM. 'bulk': how many values and letters a reading holds, each counted each time it is reached (what is shared counts as often as it is met; a slice's spare places count too). A statement '..UptoSaid' is the law's where the arguments, and the package variables that the reading takes, are together of bulk at most 1048576: NARROWER than '..Said'. Prove '..Said' where nothing that the law and all that it calls make is longer than what came in: it says more and counts as full. Else prove '..UptoSaid'. A law counts once. -/
mutual
def uptoBulk {H : Type} : DataW H → Nat
  | .lit (.string bytes) => bytes.length + 1
  | .lit _ => 1
  | .nil => 1
  | .ptr d => uptoBulk d + 1
  | .slice elems spare => uptoBulkAll elems + uptoBulkAll spare + 1
  | .agg parts => uptoBulkAll parts + 1
  | .iface _ d => uptoBulk d + 1
  | .map entries => uptoBulkEntries entries + 1
  | .held _ => 1
def uptoBulkAll {H : Type} : List (DataW H) → Nat
  | [] => 0
  | d :: r => uptoBulk d + uptoBulkAll r
def uptoBulkEntries {H : Type} : List (Lit × DataW H) → Nat
  | [] => 0
  | x :: r => uptoBulkEntry x + uptoBulkEntries r
def uptoBulkEntry {H : Type} : Lit × DataW H → Nat
  | (.string bytes, d) => bytes.length + uptoBulk d + 1
  | (_, d) => uptoBulk d + 1
 end
def uptoSmall : (H : Type) → List (DataW H) → Bool := fun _ ds => decide (uptoBulkAll ds ≤ 1048576)
def OpenSpec.upto (s : _root_.Go.ChangeSpec) : _root_.Go.OpenSpec := { _root_.Go.OpenSpec.ofChange s with cond := some uptoSmall }

/-- 'strongboxlaw21.SnapMore', WHERE WHAT IT READS IS OF BULK AT MOST 1048576: true; the input reads as it did. -/
def snapMoreUptoRow : OpenClaim := { program := "ytbhbkllclookhaa", sum := "384d24d53961a0e50bf4d78d28b477931435085465de5b65cccc727f9196e207", func := "strongbox/strongboxlaw21.SnapMore", spec := "snapMore", unfollowed := true, recurses := true, apart := false, narrowed := true }
def SnapMoreUptoSaid : Prop := snapMoreUptoRow.holds Try.pinned (OpenSpec.upto snapMoreSpec)

/-- 'strongboxlaw21.SnapStays', WHERE WHAT IT READS IS OF BULK AT MOST 1048576: true; the input reads as it did. -/
def snapStaysUptoRow : OpenClaim := { program := "ytbhbkllclookhaa", sum := "384d24d53961a0e50bf4d78d28b477931435085465de5b65cccc727f9196e207", func := "strongbox/strongboxlaw21.SnapStays", spec := "snapStays", unfollowed := true, recurses := true, apart := false, narrowed := true }
def SnapStaysUptoSaid : Prop := snapStaysUptoRow.holds Try.pinned (OpenSpec.upto snapStaysSpec)

/-- 'strongboxlaw21.SnapRoots', WHERE WHAT IT READS IS OF BULK AT MOST 1048576: true; the input reads as it did. -/
def snapRootsUptoRow : OpenClaim := { program := "ytbhbkllclookhaa", sum := "384d24d53961a0e50bf4d78d28b477931435085465de5b65cccc727f9196e207", func := "strongbox/strongboxlaw21.SnapRoots", spec := "snapRoots", unfollowed := true, recurses := true, apart := false, narrowed := true }
def SnapRootsUptoSaid : Prop := snapRootsUptoRow.holds Try.pinned (OpenSpec.upto snapRootsSpec)

/-- 'strongboxlaw21.SnapNames', WHERE WHAT IT READS IS OF BULK AT MOST 1048576: true; the input reads as it did. -/
def snapNamesUptoRow : OpenClaim := { program := "ytbhbkllclookhaa", sum := "384d24d53961a0e50bf4d78d28b477931435085465de5b65cccc727f9196e207", func := "strongbox/strongboxlaw21.SnapNames", spec := "snapNames", unfollowed := true, recurses := true, apart := false, narrowed := true }
def SnapNamesUptoSaid : Prop := snapNamesUptoRow.holds Try.pinned (OpenSpec.upto snapNamesSpec)

/-- 'strongboxlaw21.SnapDoes', WHERE WHAT IT READS IS OF BULK AT MOST 1048576: true; the input reads as it did. -/
def snapDoesUptoRow : OpenClaim := { program := "ytbhbkllclookhaa", sum := "384d24d53961a0e50bf4d78d28b477931435085465de5b65cccc727f9196e207", func := "strongbox/strongboxlaw21.SnapDoes", spec := "snapDoes", unfollowed := true, recurses := true, apart := false, narrowed := true }
def SnapDoesUptoSaid : Prop := snapDoesUptoRow.holds Try.pinned (OpenSpec.upto snapDoesSpec)

/-- 'strongboxlaw23.RootReads', WHERE WHAT IT READS IS OF BULK AT MOST 1048576: true; the input reads as it did. -/
def rootReadsUptoRow : OpenClaim := { program := "ytbhbkllclookhaa", sum := "384d24d53961a0e50bf4d78d28b477931435085465de5b65cccc727f9196e207", func := "strongbox/strongboxlaw23.RootReads", spec := "rootReads", unfollowed := true, recurses := true, apart := false, narrowed := true }
def RootReadsUptoSaid : Prop := rootReadsUptoRow.holds Try.pinned (OpenSpec.upto rootReadsSpec)

/-- 'strongboxlaw23.RootMakes', WHERE WHAT IT READS IS OF BULK AT MOST 1048576: true; the input reads as it did. -/
def rootMakesUptoRow : OpenClaim := { program := "ytbhbkllclookhaa", sum := "384d24d53961a0e50bf4d78d28b477931435085465de5b65cccc727f9196e207", func := "strongbox/strongboxlaw23.RootMakes", spec := "rootMakes", inPlace := ["internal/abi.NoEscape"], unfollowed := true, recurses := true, apart := false, narrowed := true }
def RootMakesUptoSaid : Prop := rootMakesUptoRow.holds Try.pinned (OpenSpec.upto rootMakesSpec)

/-- 'strongboxlaw23.RootOne', WHERE WHAT IT READS IS OF BULK AT MOST 1048576: true; the input reads as it did. -/
def rootOneUptoRow : OpenClaim := { program := "ytbhbkllclookhaa", sum := "384d24d53961a0e50bf4d78d28b477931435085465de5b65cccc727f9196e207", func := "strongbox/strongboxlaw23.RootOne", spec := "rootOne", inPlace := ["internal/abi.NoEscape"], unfollowed := true, recurses := true, apart := false, narrowed := true }
def RootOneUptoSaid : Prop := rootOneUptoRow.holds Try.pinned (OpenSpec.upto rootOneSpec)

/-- 'strongboxlaw23.RootBack', WHERE WHAT IT READS IS OF BULK AT MOST 1048576: true; the input reads as it did. -/
def rootBackUptoRow : OpenClaim := { program := "ytbhbkllclookhaa", sum := "384d24d53961a0e50bf4d78d28b477931435085465de5b65cccc727f9196e207", func := "strongbox/strongboxlaw23.RootBack", spec := "rootBack", inPlace := ["internal/abi.NoEscape"], unfollowed := true, recurses := true, apart := false, narrowed := true }
def RootBackUptoSaid : Prop := rootBackUptoRow.holds Try.pinned (OpenSpec.upto rootBackSpec)

/-- 'strongboxlaw23.RootNames', WHERE WHAT IT READS IS OF BULK AT MOST 1048576: true; the input reads as it did. -/
def rootNamesUptoRow : OpenClaim := { program := "ytbhbkllclookhaa", sum := "384d24d53961a0e50bf4d78d28b477931435085465de5b65cccc727f9196e207", func := "strongbox/strongboxlaw23.RootNames", spec := "rootNames", inPlace := ["internal/abi.NoEscape"], unfollowed := true, recurses := true, apart := false, narrowed := true }
def RootNamesUptoSaid : Prop := rootNamesUptoRow.holds Try.pinned (OpenSpec.upto rootNamesSpec)

/-- 'strongboxlaw23.RootCut', WHERE WHAT IT READS IS OF BULK AT MOST 1048576: true; the input reads as it did. -/
def rootCutUptoRow : OpenClaim := { program := "ytbhbkllclookhaa", sum := "384d24d53961a0e50bf4d78d28b477931435085465de5b65cccc727f9196e207", func := "strongbox/strongboxlaw23.RootCut", spec := "rootCut", inPlace := ["internal/abi.NoEscape"], unfollowed := true, recurses := true, apart := false, narrowed := true }
def RootCutUptoSaid : Prop := rootCutUptoRow.holds Try.pinned (OpenSpec.upto rootCutSpec)

/-- 'strongboxlaw17.IndexFinds', WHERE WHAT IT READS IS OF BULK AT MOST 1048576: true; the input reads as it did. -/
def indexFindsUptoRow : OpenClaim := { program := "ytbhbkllclookhaa", sum := "384d24d53961a0e50bf4d78d28b477931435085465de5b65cccc727f9196e207", func := "strongbox/strongboxlaw17.IndexFinds", spec := "indexFinds", unfollowed := true, recurses := true, apart := false, narrowed := true }
def IndexFindsUptoSaid : Prop := indexFindsUptoRow.holds Try.pinned (OpenSpec.upto indexFindsSpec)

end Rows
end Go.Proofs.Ytbhbkllclookhaa
