/-
  No cell of these rows narrows 'for every input' (looked for: loops, veiled, ifaces, maps, wideKeys, modest, calm, conditions, laid).
  DERIVED. THE GIVEN ROWS OF THIS SEAT. 8 by the template 'for every input the law returns true; each argument reads behind the call as it read before'; 0 by the template 'total and deterministic' (their statements: YtgopkjgkjjllfaaTotals.lean).
  GIVEN WITH THE SEED: the statements are not yours to turn. If you find one false, say at which input.
  Laid BY PROGRAM, IN A SANDBOX (cutbox-rows.mjs): the forced cells as the released guide's own fill.sh prints them over the translation d3c192fcff7a4a38… (all of the seat's roots in one cut). By AI agents, Wed Nov 11 2026. No macro, syntax, notation, axiom, sorry.
-/
import Derived.Test.YtgopkjgkjjllfaaChecked
import GoSem.Claim
import GoSem.ClaimJoined
import GoSem.ClaimMapViews
import Derived.JoinedTies
import Derived.KernelRfl
namespace Go.Proofs.Ytgopkjgkjjllfaa
/- THE CELL 'sum', in the pinned program and in every row, IS THE sha256 OF THE DUMP (.gsa) THAT YtgopkjgkjjllfaaProg.lean LOADS. Nothing in Lean hashes anything: it is a label: what it is worth is what the hold of that sum in a sandbox is worth. -/
noncomputable def Try.pinned : Pinned := { name := "ytgopkjgkjjllfaa", sum := "d3c192fcff7a4a384887cbae2f27b7bc9b378417db626946692ae0fdd0070acb", checked := Try.checked }
namespace Rows
def none {H : Type} : Left H := { results := [], args := [] }

/-- 'strongboxlaw21.SnapSame': WHATEVER THE INPUT: true; the input reads as it did. -/
def snapSameSpec : ChangeSpec := { name := "snapSame", fn := fun _ => fun
  | [d1, d2] => { results := [.lit (.bool true)], args := [d1, d2] }
  | _ => none }
def snapSameRow : OpenClaim := { program := "ytgopkjgkjjllfaa", sum := "d3c192fcff7a4a384887cbae2f27b7bc9b378417db626946692ae0fdd0070acb", func := "strongbox/strongboxlaw21.SnapSame", spec := "snapSame", apart := false }
def SnapSameSaid : Prop := snapSameRow.holds Try.pinned (OpenSpec.ofChange snapSameSpec)

/-- ITS FALSE NEIGHBOUR: 'it returns false'. Refute it at one input. -/
def snapSameWrong : ChangeSpec := { name := "snapSame", fn := fun _ => fun
  | [d1, d2] => { results := [.lit (.bool false)], args := [d1, d2] }
  | _ => none }
def SnapSameWrongFalsely : Prop := snapSameRow.holds Try.pinned (OpenSpec.ofChange snapSameWrong)

/-- 'strongboxlaw22.KeepTells': WHATEVER THE INPUT: true; the input reads as it did. -/
def keepTellsSpec : ChangeSpec := { name := "keepTells", fn := fun _ => fun
  | [d1, d2] => { results := [.lit (.bool true)], args := [d1, d2] }
  | _ => none }
def keepTellsRow : OpenClaim := { program := "ytgopkjgkjjllfaa", sum := "d3c192fcff7a4a384887cbae2f27b7bc9b378417db626946692ae0fdd0070acb", func := "strongbox/strongboxlaw22.KeepTells", spec := "keepTells", unfollowed := true, recurses := true, apart := false }
def KeepTellsSaid : Prop := keepTellsRow.holds Try.pinned (OpenSpec.ofChange keepTellsSpec)

/-- ITS FALSE NEIGHBOUR: 'it returns false'. Refute it at one input. -/
def keepTellsWrong : ChangeSpec := { name := "keepTells", fn := fun _ => fun
  | [d1, d2] => { results := [.lit (.bool false)], args := [d1, d2] }
  | _ => none }
def KeepTellsWrongFalsely : Prop := keepTellsRow.holds Try.pinned (OpenSpec.ofChange keepTellsWrong)

/-- 'strongboxlaw22.KeepNames': WHATEVER THE INPUT: true; the input reads as it did. -/
def keepNamesSpec : ChangeSpec := { name := "keepNames", fn := fun _ => fun
  | [] => { results := [.lit (.bool true)], args := [] }
  | _ => none }
def keepNamesRow : OpenClaim := { program := "ytgopkjgkjjllfaa", sum := "d3c192fcff7a4a384887cbae2f27b7bc9b378417db626946692ae0fdd0070acb", func := "strongbox/strongboxlaw22.KeepNames", spec := "keepNames", unfollowed := true, recurses := true, apart := false }
def KeepNamesSaid : Prop := keepNamesRow.holds Try.pinned (OpenSpec.ofChange keepNamesSpec)

/-- ITS FALSE NEIGHBOUR: 'it returns false'. Refute it at one input. -/
def keepNamesWrong : ChangeSpec := { name := "keepNames", fn := fun _ => fun
  | [] => { results := [.lit (.bool false)], args := [] }
  | _ => none }
def KeepNamesWrongFalsely : Prop := keepNamesRow.holds Try.pinned (OpenSpec.ofChange keepNamesWrong)

/-- 'strongboxlaw22.KeepEach': WHATEVER THE INPUT: true; the input reads as it did. -/
def keepEachSpec : ChangeSpec := { name := "keepEach", fn := fun _ => fun
  | [d1, d2] => { results := [.lit (.bool true)], args := [d1, d2] }
  | _ => none }
def keepEachRow : OpenClaim := { program := "ytgopkjgkjjllfaa", sum := "d3c192fcff7a4a384887cbae2f27b7bc9b378417db626946692ae0fdd0070acb", func := "strongbox/strongboxlaw22.KeepEach", spec := "keepEach", unfollowed := true, recurses := true, apart := false }
def KeepEachSaid : Prop := keepEachRow.holds Try.pinned (OpenSpec.ofChange keepEachSpec)

/-- ITS FALSE NEIGHBOUR: 'it returns false'. Refute it at one input. -/
def keepEachWrong : ChangeSpec := { name := "keepEach", fn := fun _ => fun
  | [d1, d2] => { results := [.lit (.bool false)], args := [d1, d2] }
  | _ => none }
def KeepEachWrongFalsely : Prop := keepEachRow.holds Try.pinned (OpenSpec.ofChange keepEachWrong)

/-- 'strongboxlaw22.KeepMore': WHATEVER THE INPUT: true; the input reads as it did. -/
def keepMoreSpec : ChangeSpec := { name := "keepMore", fn := fun _ => fun
  | [d1, d2, d3] => { results := [.lit (.bool true)], args := [d1, d2, d3] }
  | _ => none }
def keepMoreRow : OpenClaim := { program := "ytgopkjgkjjllfaa", sum := "d3c192fcff7a4a384887cbae2f27b7bc9b378417db626946692ae0fdd0070acb", func := "strongbox/strongboxlaw22.KeepMore", spec := "keepMore", unfollowed := true, recurses := true, apart := false }
def KeepMoreSaid : Prop := keepMoreRow.holds Try.pinned (OpenSpec.ofChange keepMoreSpec)

/-- ITS FALSE NEIGHBOUR: 'it returns false'. Refute it at one input. -/
def keepMoreWrong : ChangeSpec := { name := "keepMore", fn := fun _ => fun
  | [d1, d2, d3] => { results := [.lit (.bool false)], args := [d1, d2, d3] }
  | _ => none }
def KeepMoreWrongFalsely : Prop := keepMoreRow.holds Try.pinned (OpenSpec.ofChange keepMoreWrong)

/-- 'strongboxlaw22.KeepRow': WHATEVER THE INPUT: true; the input reads as it did. -/
def keepRowSpec : ChangeSpec := { name := "keepRow", fn := fun _ => fun
  | [d1, d2] => { results := [.lit (.bool true)], args := [d1, d2] }
  | _ => none }
def keepRowRow : OpenClaim := { program := "ytgopkjgkjjllfaa", sum := "d3c192fcff7a4a384887cbae2f27b7bc9b378417db626946692ae0fdd0070acb", func := "strongbox/strongboxlaw22.KeepRow", spec := "keepRow", unfollowed := true, recurses := true, apart := false }
def KeepRowSaid : Prop := keepRowRow.holds Try.pinned (OpenSpec.ofChange keepRowSpec)

/-- ITS FALSE NEIGHBOUR: 'it returns false'. Refute it at one input. -/
def keepRowWrong : ChangeSpec := { name := "keepRow", fn := fun _ => fun
  | [d1, d2] => { results := [.lit (.bool false)], args := [d1, d2] }
  | _ => none }
def KeepRowWrongFalsely : Prop := keepRowRow.holds Try.pinned (OpenSpec.ofChange keepRowWrong)

/-- 'strongboxlaw21.SnapMore': WHATEVER THE INPUT: true; the input reads as it did. -/
def snapMoreSpec : ChangeSpec := { name := "snapMore", fn := fun _ => fun
  | [d1, d2] => { results := [.lit (.bool true)], args := [d1, d2] }
  | _ => none }
def snapMoreRow : OpenClaim := { program := "ytgopkjgkjjllfaa", sum := "d3c192fcff7a4a384887cbae2f27b7bc9b378417db626946692ae0fdd0070acb", func := "strongbox/strongboxlaw21.SnapMore", spec := "snapMore", unfollowed := true, recurses := true, apart := false }
def SnapMoreSaid : Prop := snapMoreRow.holds Try.pinned (OpenSpec.ofChange snapMoreSpec)

/-- ITS FALSE NEIGHBOUR: 'it returns false'. Refute it at one input. -/
def snapMoreWrong : ChangeSpec := { name := "snapMore", fn := fun _ => fun
  | [d1, d2] => { results := [.lit (.bool false)], args := [d1, d2] }
  | _ => none }
def SnapMoreWrongFalsely : Prop := snapMoreRow.holds Try.pinned (OpenSpec.ofChange snapMoreWrong)

/-- 'strongboxlaw21.SnapStays': WHATEVER THE INPUT: true; the input reads as it did. -/
def snapStaysSpec : ChangeSpec := { name := "snapStays", fn := fun _ => fun
  | [d1, d2, d3, d4] => { results := [.lit (.bool true)], args := [d1, d2, d3, d4] }
  | _ => none }
def snapStaysRow : OpenClaim := { program := "ytgopkjgkjjllfaa", sum := "d3c192fcff7a4a384887cbae2f27b7bc9b378417db626946692ae0fdd0070acb", func := "strongbox/strongboxlaw21.SnapStays", spec := "snapStays", unfollowed := true, recurses := true, apart := false }
def SnapStaysSaid : Prop := snapStaysRow.holds Try.pinned (OpenSpec.ofChange snapStaysSpec)

/-- ITS FALSE NEIGHBOUR: 'it returns false'. Refute it at one input. -/
def snapStaysWrong : ChangeSpec := { name := "snapStays", fn := fun _ => fun
  | [d1, d2, d3, d4] => { results := [.lit (.bool false)], args := [d1, d2, d3, d4] }
  | _ => none }
def SnapStaysWrongFalsely : Prop := snapStaysRow.holds Try.pinned (OpenSpec.ofChange snapStaysWrong)

/- THE SECOND FORM. 'bulk': how many values and letters a reading holds, each counted each time it is reached (what is shared counts as often as it is met; a slice's spare places count too). A statement '..UptoSaid' is the law's where the arguments, and the package variables that the reading takes, are together of bulk at most 1048576: NARROWER than '..Said'. Prove '..Said' where nothing that the law and all that it calls make is longer than what came in: it says more and counts as full. Else prove '..UptoSaid'. A law counts once. -/
mutual
def uptoBulk {H : Type} : DataW H → Nat
  | .lit (.string bytes) => bytes.length + 1
  | .lit _ => 1
  | .nil => 1
  | .ptr d => uptoBulk d + 1
  | .slice elems spare => uptoBulkAll elems + uptoBulkAll spare + 1
  | .agg parts => uptoBulkAll parts + 1
  | .iface _ d => uptoBulk d + 1
  | .map entries => uptoBulkEntries entries + 1
  | .held _ => 1
def uptoBulkAll {H : Type} : List (DataW H) → Nat
  | [] => 0
  | d :: r => uptoBulk d + uptoBulkAll r
def uptoBulkEntries {H : Type} : List (Lit × DataW H) → Nat
  | [] => 0
  | x :: r => uptoBulkEntry x + uptoBulkEntries r
def uptoBulkEntry {H : Type} : Lit × DataW H → Nat
  | (.string bytes, d) => bytes.length + uptoBulk d + 1
  | (_, d) => uptoBulk d + 1
 end
def uptoSmall : (H : Type) → List (DataW H) → Bool := fun _ ds => decide (uptoBulkAll ds ≤ 1048576)
def OpenSpec.upto (s : _root_.Go.ChangeSpec) : _root_.Go.OpenSpec := { _root_.Go.OpenSpec.ofChange s with cond := some uptoSmall }

/-- 'strongboxlaw21.SnapSame', WHERE WHAT IT READS IS OF BULK AT MOST 1048576: true; the input reads as it did. -/
def snapSameUptoRow : OpenClaim := { program := "ytgopkjgkjjllfaa", sum := "d3c192fcff7a4a384887cbae2f27b7bc9b378417db626946692ae0fdd0070acb", func := "strongbox/strongboxlaw21.SnapSame", spec := "snapSame", apart := false, narrowed := true }
def SnapSameUptoSaid : Prop := snapSameUptoRow.holds Try.pinned (OpenSpec.upto snapSameSpec)

/-- 'strongboxlaw22.KeepTells', WHERE WHAT IT READS IS OF BULK AT MOST 1048576: true; the input reads as it did. -/
def keepTellsUptoRow : OpenClaim := { program := "ytgopkjgkjjllfaa", sum := "d3c192fcff7a4a384887cbae2f27b7bc9b378417db626946692ae0fdd0070acb", func := "strongbox/strongboxlaw22.KeepTells", spec := "keepTells", unfollowed := true, recurses := true, apart := false, narrowed := true }
def KeepTellsUptoSaid : Prop := keepTellsUptoRow.holds Try.pinned (OpenSpec.upto keepTellsSpec)

/-- 'strongboxlaw22.KeepNames', WHERE WHAT IT READS IS OF BULK AT MOST 1048576: true; the input reads as it did. -/
def keepNamesUptoRow : OpenClaim := { program := "ytgopkjgkjjllfaa", sum := "d3c192fcff7a4a384887cbae2f27b7bc9b378417db626946692ae0fdd0070acb", func := "strongbox/strongboxlaw22.KeepNames", spec := "keepNames", unfollowed := true, recurses := true, apart := false, narrowed := true }
def KeepNamesUptoSaid : Prop := keepNamesUptoRow.holds Try.pinned (OpenSpec.upto keepNamesSpec)

/-- 'strongboxlaw22.KeepEach', WHERE WHAT IT READS IS OF BULK AT MOST 1048576: true; the input reads as it did. -/
def keepEachUptoRow : OpenClaim := { program := "ytgopkjgkjjllfaa", sum := "d3c192fcff7a4a384887cbae2f27b7bc9b378417db626946692ae0fdd0070acb", func := "strongbox/strongboxlaw22.KeepEach", spec := "keepEach", unfollowed := true, recurses := true, apart := false, narrowed := true }
def KeepEachUptoSaid : Prop := keepEachUptoRow.holds Try.pinned (OpenSpec.upto keepEachSpec)

/-- 'strongboxlaw22.KeepMore', WHERE WHAT IT READS IS OF BULK AT MOST 1048576: true; the input reads as it did. -/
def keepMoreUptoRow : OpenClaim := { program := "ytgopkjgkjjllfaa", sum := "d3c192fcff7a4a384887cbae2f27b7bc9b378417db626946692ae0fdd0070acb", func := "strongbox/strongboxlaw22.KeepMore", spec := "keepMore", unfollowed := true, recurses := true, apart := false, narrowed := true }
def KeepMoreUptoSaid : Prop := keepMoreUptoRow.holds Try.pinned (OpenSpec.upto keepMoreSpec)

/-- 'strongboxlaw22.KeepRow', WHERE WHAT IT READS IS OF BULK AT MOST 1048576: true; the input reads as it did. -/
def keepRowUptoRow : OpenClaim := { program := "ytgopkjgkjjllfaa", sum := "d3c192fcff7a4a384887cbae2f27b7bc9b378417db626946692ae0fdd0070acb", func := "strongbox/strongboxlaw22.KeepRow", spec := "keepRow", unfollowed := true, recurses := true, apart := false, narrowed := true }
def KeepRowUptoSaid : Prop := keepRowUptoRow.holds Try.pinned (OpenSpec.upto keepRowSpec)

/-- 'strongboxlaw21.SnapMore', WHERE WHAT IT READS IS OF BULK AT MOST 1048576: true; the input reads as it did. -/
def snapMoreUptoRow : OpenClaim := { program := "ytgopkjgkjjllfaa", sum := "d3c192fcff7a4a384887cbae2f27b7bc9b378417db626946692ae0fdd0070acb", func := "strongbox/strongboxlaw21.SnapMore", spec := "snapMore", unfollowed := true, recurses := true, apart := false, narrowed := true }
def SnapMoreUptoSaid : Prop := snapMoreUptoRow.holds Try.pinned (OpenSpec.upto snapMoreSpec)

/-- 'strongboxlaw21.SnapStays', WHERE WHAT IT READS IS OF BULK AT MOST 1048576: true; the input reads as it did. -/
def snapStaysUptoRow : OpenClaim := { program := "ytgopkjgkjjllfaa", sum := "d3c192fcff7a4a384887cbae2f27b7bc9b378417db626946692ae0fdd0070acb", func := "strongbox/strongboxlaw21.SnapStays", spec := "snapStays", unfollowed := true, recurses := true, apart := false, narrowed := true }
def SnapStaysUptoSaid : Prop := snapStaysUptoRow.holds Try.pinned (OpenSpec.upto snapStaysSpec)

end Rows
end Go.Proofs.Ytgopkjgkjjllfaa
