/-
  No cell of these rows narrows 'for every input' (looked for: loops, veiled, ifaces, maps, wideKeys, modest, calm, conditions, laid).
  DERIVED. THE GIVEN ROWS OF THIS SEAT. 11 by the template 'for every input the law returns true; each argument reads behind the call as it read before'; 0 by the template 'total and deterministic' (their statements: YtcepdigeimedoaaTotals.lean).
  GIVEN WITH THE SEED: the statements are not yours to turn. If you find one false, say at which input.
  Laid BY PROGRAM, IN A SANDBOX (cutbox-rows.mjs): the forced cells as the released guide's own fill.sh prints them over the translation d5e316703b4eb1eb… (all of the seat's roots in one cut). By AI agents, Wed Nov 11 2026. No macro, syntax, notation, axiom, sorry.
-/
import Derived.Test.YtcepdigeimedoaaChecked
import GoSem.Claim
import GoSem.ClaimJoined
import GoSem.ClaimMapViews
import Derived.JoinedTies
import Derived.KernelRfl
namespace Go.Proofs.Ytcepdigeimedoaa
/- THE CELL 'sum', in the pinned program and in every row, IS THE sha256 OF THE DUMP (.gsa) THAT YtcepdigeimedoaaProg.lean LOADS. Nothing in Lean hashes anything: it is a label: what it is worth is what the hold of that sum in a sandbox is worth. -/
noncomputable def Try.pinned : Pinned := { name := "ytcepdigeimedoaa", sum := "d5e316703b4eb1eb022a540507eefb9d43b86c08e6e4b2ad65976e32103b42f2", checked := Try.checked }
namespace Rows
def none {H : Type} : Left H := { results := [], args := [] }

/-- 'strongboxlaw07.StoreLasts': WHATEVER THE INPUT: true; the input reads as it did. -/
def storeLastsSpec : ChangeSpec := { name := "storeLasts", fn := fun _ => fun
  | [d1, d2, d3] => { results := [.lit (.bool true)], args := [d1, d2, d3] }
  | _ => none }
def storeLastsRow : OpenClaim := { program := "ytcepdigeimedoaa", sum := "d5e316703b4eb1eb022a540507eefb9d43b86c08e6e4b2ad65976e32103b42f2", func := "strongbox/strongboxlaw07.StoreLasts", spec := "storeLasts", inPlace := ["maps.clone"], unfollowed := true, recurses := true, apart := false }
def StoreLastsSaid : Prop := storeLastsRow.holds Try.pinned (OpenSpec.ofChange storeLastsSpec)

/-- ITS FALSE NEIGHBOUR: 'it returns false'. Refute it at one input. -/
def storeLastsWrong : ChangeSpec := { name := "storeLasts", fn := fun _ => fun
  | [d1, d2, d3] => { results := [.lit (.bool false)], args := [d1, d2, d3] }
  | _ => none }
def StoreLastsWrongFalsely : Prop := storeLastsRow.holds Try.pinned (OpenSpec.ofChange storeLastsWrong)

/-- 'strongboxlaw07.StoreRoom': WHATEVER THE INPUT: true; the input reads as it did. -/
def storeRoomSpec : ChangeSpec := { name := "storeRoom", fn := fun _ => fun
  | [d1, d2] => { results := [.lit (.bool true)], args := [d1, d2] }
  | _ => none }
def storeRoomRow : OpenClaim := { program := "ytcepdigeimedoaa", sum := "d5e316703b4eb1eb022a540507eefb9d43b86c08e6e4b2ad65976e32103b42f2", func := "strongbox/strongboxlaw07.StoreRoom", spec := "storeRoom", inPlace := ["maps.clone"], unfollowed := true, recurses := true, apart := false }
def StoreRoomSaid : Prop := storeRoomRow.holds Try.pinned (OpenSpec.ofChange storeRoomSpec)

/-- ITS FALSE NEIGHBOUR: 'it returns false'. Refute it at one input. -/
def storeRoomWrong : ChangeSpec := { name := "storeRoom", fn := fun _ => fun
  | [d1, d2] => { results := [.lit (.bool false)], args := [d1, d2] }
  | _ => none }
def StoreRoomWrongFalsely : Prop := storeRoomRow.holds Try.pinned (OpenSpec.ofChange storeRoomWrong)

/-- 'strongboxlaw07.StoreRefused': WHATEVER THE INPUT: true; the input reads as it did. -/
def storeRefusedSpec : ChangeSpec := { name := "storeRefused", fn := fun _ => fun
  | [d1, d2] => { results := [.lit (.bool true)], args := [d1, d2] }
  | _ => none }
def storeRefusedRow : OpenClaim := { program := "ytcepdigeimedoaa", sum := "d5e316703b4eb1eb022a540507eefb9d43b86c08e6e4b2ad65976e32103b42f2", func := "strongbox/strongboxlaw07.StoreRefused", spec := "storeRefused", inPlace := ["maps.clone"], unfollowed := true, recurses := true, apart := false }
def StoreRefusedSaid : Prop := storeRefusedRow.holds Try.pinned (OpenSpec.ofChange storeRefusedSpec)

/-- ITS FALSE NEIGHBOUR: 'it returns false'. Refute it at one input. -/
def storeRefusedWrong : ChangeSpec := { name := "storeRefused", fn := fun _ => fun
  | [d1, d2] => { results := [.lit (.bool false)], args := [d1, d2] }
  | _ => none }
def StoreRefusedWrongFalsely : Prop := storeRefusedRow.holds Try.pinned (OpenSpec.ofChange storeRefusedWrong)

/-- 'strongboxlaw07.StoreMap': WHATEVER THE INPUT: true; the input reads as it did. -/
def storeMapSpec : ChangeSpec := { name := "storeMap", fn := fun _ => fun
  | [d] => { results := [.lit (.bool true)], args := [d] }
  | _ => none }
def storeMapRow : OpenClaim := { program := "ytcepdigeimedoaa", sum := "d5e316703b4eb1eb022a540507eefb9d43b86c08e6e4b2ad65976e32103b42f2", func := "strongbox/strongboxlaw07.StoreMap", spec := "storeMap", inPlace := ["maps.clone"], unfollowed := true, recurses := true, apart := false }
def StoreMapSaid : Prop := storeMapRow.holds Try.pinned (OpenSpec.ofChange storeMapSpec)

/-- ITS FALSE NEIGHBOUR: 'it returns false'. Refute it at one input. -/
def storeMapWrong : ChangeSpec := { name := "storeMap", fn := fun _ => fun
  | [d] => { results := [.lit (.bool false)], args := [d] }
  | _ => none }
def StoreMapWrongFalsely : Prop := storeMapRow.holds Try.pinned (OpenSpec.ofChange storeMapWrong)

/-- 'strongboxlaw07.StoreSame': WHATEVER THE INPUT: true; the input reads as it did. -/
def storeSameSpec : ChangeSpec := { name := "storeSame", fn := fun _ => fun
  | [d1, d2, d3] => { results := [.lit (.bool true)], args := [d1, d2, d3] }
  | _ => none }
def storeSameRow : OpenClaim := { program := "ytcepdigeimedoaa", sum := "d5e316703b4eb1eb022a540507eefb9d43b86c08e6e4b2ad65976e32103b42f2", func := "strongbox/strongboxlaw07.StoreSame", spec := "storeSame", inPlace := ["maps.clone"], unfollowed := true, recurses := true, apart := false }
def StoreSameSaid : Prop := storeSameRow.holds Try.pinned (OpenSpec.ofChange storeSameSpec)

/-- ITS FALSE NEIGHBOUR: 'it returns false'. Refute it at one input. -/
def storeSameWrong : ChangeSpec := { name := "storeSame", fn := fun _ => fun
  | [d1, d2, d3] => { results := [.lit (.bool false)], args := [d1, d2, d3] }
  | _ => none }
def StoreSameWrongFalsely : Prop := storeSameRow.holds Try.pinned (OpenSpec.ofChange storeSameWrong)

/-- 'strongboxlaw07.StoreNames': WHATEVER THE INPUT: true; the input reads as it did. -/
def storeNamesSpec : ChangeSpec := { name := "storeNames", fn := fun _ => fun
  | [] => { results := [.lit (.bool true)], args := [] }
  | _ => none }
def storeNamesRow : OpenClaim := { program := "ytcepdigeimedoaa", sum := "d5e316703b4eb1eb022a540507eefb9d43b86c08e6e4b2ad65976e32103b42f2", func := "strongbox/strongboxlaw07.StoreNames", spec := "storeNames", inPlace := ["maps.clone"], unfollowed := true, recurses := true, apart := false }
def StoreNamesSaid : Prop := storeNamesRow.holds Try.pinned (OpenSpec.ofChange storeNamesSpec)

/-- ITS FALSE NEIGHBOUR: 'it returns false'. Refute it at one input. -/
def storeNamesWrong : ChangeSpec := { name := "storeNames", fn := fun _ => fun
  | [] => { results := [.lit (.bool false)], args := [] }
  | _ => none }
def StoreNamesWrongFalsely : Prop := storeNamesRow.holds Try.pinned (OpenSpec.ofChange storeNamesWrong)

/-- 'strongboxlaw07.StorePlays': WHATEVER THE INPUT: true; the input reads as it did. -/
def storePlaysSpec : ChangeSpec := { name := "storePlays", fn := fun _ => fun
  | [d] => { results := [.lit (.bool true)], args := [d] }
  | _ => none }
def storePlaysRow : OpenClaim := { program := "ytcepdigeimedoaa", sum := "d5e316703b4eb1eb022a540507eefb9d43b86c08e6e4b2ad65976e32103b42f2", func := "strongbox/strongboxlaw07.StorePlays", spec := "storePlays", inPlace := ["maps.clone"], unfollowed := true, recurses := true, apart := false }
def StorePlaysSaid : Prop := storePlaysRow.holds Try.pinned (OpenSpec.ofChange storePlaysSpec)

/-- ITS FALSE NEIGHBOUR: 'it returns false'. Refute it at one input. -/
def storePlaysWrong : ChangeSpec := { name := "storePlays", fn := fun _ => fun
  | [d] => { results := [.lit (.bool false)], args := [d] }
  | _ => none }
def StorePlaysWrongFalsely : Prop := storePlaysRow.holds Try.pinned (OpenSpec.ofChange storePlaysWrong)

/-- 'strongboxlaw24.MarkTells': WHATEVER THE INPUT: true; the input reads as it did. -/
def markTellsSpec : ChangeSpec := { name := "markTells", fn := fun _ => fun
  | [d1, d2] => { results := [.lit (.bool true)], args := [d1, d2] }
  | _ => none }
def markTellsRow : OpenClaim := { program := "ytcepdigeimedoaa", sum := "d5e316703b4eb1eb022a540507eefb9d43b86c08e6e4b2ad65976e32103b42f2", func := "strongbox/strongboxlaw24.MarkTells", spec := "markTells", unfollowed := true, recurses := true, apart := false }
def MarkTellsSaid : Prop := markTellsRow.holds Try.pinned (OpenSpec.ofChange markTellsSpec)

/-- ITS FALSE NEIGHBOUR: 'it returns false'. Refute it at one input. -/
def markTellsWrong : ChangeSpec := { name := "markTells", fn := fun _ => fun
  | [d1, d2] => { results := [.lit (.bool false)], args := [d1, d2] }
  | _ => none }
def MarkTellsWrongFalsely : Prop := markTellsRow.holds Try.pinned (OpenSpec.ofChange markTellsWrong)

/-- 'strongboxlaw24.MarkParts': WHATEVER THE INPUT: true; the input reads as it did. -/
def markPartsSpec : ChangeSpec := { name := "markParts", fn := fun _ => fun
  | [d1, d2] => { results := [.lit (.bool true)], args := [d1, d2] }
  | _ => none }
def markPartsRow : OpenClaim := { program := "ytcepdigeimedoaa", sum := "d5e316703b4eb1eb022a540507eefb9d43b86c08e6e4b2ad65976e32103b42f2", func := "strongbox/strongboxlaw24.MarkParts", spec := "markParts", unfollowed := true, recurses := true, apart := false }
def MarkPartsSaid : Prop := markPartsRow.holds Try.pinned (OpenSpec.ofChange markPartsSpec)

/-- ITS FALSE NEIGHBOUR: 'it returns false'. Refute it at one input. -/
def markPartsWrong : ChangeSpec := { name := "markParts", fn := fun _ => fun
  | [d1, d2] => { results := [.lit (.bool false)], args := [d1, d2] }
  | _ => none }
def MarkPartsWrongFalsely : Prop := markPartsRow.holds Try.pinned (OpenSpec.ofChange markPartsWrong)

/-- 'strongboxlaw24.MarkPacks': WHATEVER THE INPUT: true; the input reads as it did. -/
def markPacksSpec : ChangeSpec := { name := "markPacks", fn := fun _ => fun
  | [d1, d2] => { results := [.lit (.bool true)], args := [d1, d2] }
  | _ => none }
def markPacksRow : OpenClaim := { program := "ytcepdigeimedoaa", sum := "d5e316703b4eb1eb022a540507eefb9d43b86c08e6e4b2ad65976e32103b42f2", func := "strongbox/strongboxlaw24.MarkPacks", spec := "markPacks", unfollowed := true, recurses := true, apart := false }
def MarkPacksSaid : Prop := markPacksRow.holds Try.pinned (OpenSpec.ofChange markPacksSpec)

/-- ITS FALSE NEIGHBOUR: 'it returns false'. Refute it at one input. -/
def markPacksWrong : ChangeSpec := { name := "markPacks", fn := fun _ => fun
  | [d1, d2] => { results := [.lit (.bool false)], args := [d1, d2] }
  | _ => none }
def MarkPacksWrongFalsely : Prop := markPacksRow.holds Try.pinned (OpenSpec.ofChange markPacksWrong)

/-- 'strongboxlaw24.MarkMore': WHATEVER THE INPUT: true; the input reads as it did. -/
def markMoreSpec : ChangeSpec := { name := "markMore", fn := fun _ => fun
  | [d1, d2, d3] => { results := [.lit (.bool true)], args := [d1, d2, d3] }
  | _ => none }
def markMoreRow : OpenClaim := { program := "ytcepdigeimedoaa", sum := "d5e316703b4eb1eb022a540507eefb9d43b86c08e6e4b2ad65976e32103b42f2", func := "strongbox/strongboxlaw24.MarkMore", spec := "markMore", unfollowed := true, recurses := true, apart := false }
def MarkMoreSaid : Prop := markMoreRow.holds Try.pinned (OpenSpec.ofChange markMoreSpec)

/-- ITS FALSE NEIGHBOUR: 'it returns false'. Refute it at one input. -/
def markMoreWrong : ChangeSpec := { name := "markMore", fn := fun _ => fun
  | [d1, d2, d3] => { results := [.lit (.bool false)], args := [d1, d2, d3] }
  | _ => none }
def MarkMoreWrongFalsely : Prop := markMoreRow.holds Try.pinned (OpenSpec.ofChange markMoreWrong)

/- THE SECOND FORM. 'bulk': how many values and letters a reading holds, each counted each time it is reached (what is shared counts as often as it is met; a slice's spare places count too). A statement '..UptoSaid' is the law's where the arguments, and the package variables that the reading takes, are together of bulk at most 1048576: NARROWER than '..Said'. Prove '..Said' where nothing that the law and all that it calls make is longer than what came in: it says more and counts as full. Else prove '..UptoSaid'. A law counts once. -/
mutual
def uptoBulk {H : Type} : DataW H → Nat
  | .lit (.string bytes) => bytes.length + 1
  | .lit _ => 1
  | .nil => 1
  | .ptr d => uptoBulk d + 1
  | .slice elems spare => uptoBulkAll elems + uptoBulkAll spare + 1
  | .agg parts => uptoBulkAll parts + 1
  | .iface _ d => uptoBulk d + 1
  | .map entries => uptoBulkEntries entries + 1
  | .held _ => 1
def uptoBulkAll {H : Type} : List (DataW H) → Nat
  | [] => 0
  | d :: r => uptoBulk d + uptoBulkAll r
def uptoBulkEntries {H : Type} : List (Lit × DataW H) → Nat
  | [] => 0
  | x :: r => uptoBulkEntry x + uptoBulkEntries r
def uptoBulkEntry {H : Type} : Lit × DataW H → Nat
  | (.string bytes, d) => bytes.length + uptoBulk d + 1
  | (_, d) => uptoBulk d + 1
 end
def uptoSmall : (H : Type) → List (DataW H) → Bool := fun _ ds => decide (uptoBulkAll ds ≤ 1048576)
def OpenSpec.upto (s : _root_.Go.ChangeSpec) : _root_.Go.OpenSpec := { _root_.Go.OpenSpec.ofChange s with cond := some uptoSmall }

/-- 'strongboxlaw07.StoreLasts', WHERE WHAT IT READS IS OF BULK AT MOST 1048576: true; the input reads as it did. -/
def storeLastsUptoRow : OpenClaim := { program := "ytcepdigeimedoaa", sum := "d5e316703b4eb1eb022a540507eefb9d43b86c08e6e4b2ad65976e32103b42f2", func := "strongbox/strongboxlaw07.StoreLasts", spec := "storeLasts", inPlace := ["maps.clone"], unfollowed := true, recurses := true, apart := false, narrowed := true }
def StoreLastsUptoSaid : Prop := storeLastsUptoRow.holds Try.pinned (OpenSpec.upto storeLastsSpec)

/-- 'strongboxlaw07.StoreRoom', WHERE WHAT IT READS IS OF BULK AT MOST 1048576: true; the input reads as it did. -/
def storeRoomUptoRow : OpenClaim := { program := "ytcepdigeimedoaa", sum := "d5e316703b4eb1eb022a540507eefb9d43b86c08e6e4b2ad65976e32103b42f2", func := "strongbox/strongboxlaw07.StoreRoom", spec := "storeRoom", inPlace := ["maps.clone"], unfollowed := true, recurses := true, apart := false, narrowed := true }
def StoreRoomUptoSaid : Prop := storeRoomUptoRow.holds Try.pinned (OpenSpec.upto storeRoomSpec)

/-- 'strongboxlaw07.StoreRefused', WHERE WHAT IT READS IS OF BULK AT MOST 1048576: true; the input reads as it did. -/
def storeRefusedUptoRow : OpenClaim := { program := "ytcepdigeimedoaa", sum := "d5e316703b4eb1eb022a540507eefb9d43b86c08e6e4b2ad65976e32103b42f2", func := "strongbox/strongboxlaw07.StoreRefused", spec := "storeRefused", inPlace := ["maps.clone"], unfollowed := true, recurses := true, apart := false, narrowed := true }
def StoreRefusedUptoSaid : Prop := storeRefusedUptoRow.holds Try.pinned (OpenSpec.upto storeRefusedSpec)

/-- 'strongboxlaw07.StoreMap', WHERE WHAT IT READS IS OF BULK AT MOST 1048576: true; the input reads as it did. -/
def storeMapUptoRow : OpenClaim := { program := "ytcepdigeimedoaa", sum := "d5e316703b4eb1eb022a540507eefb9d43b86c08e6e4b2ad65976e32103b42f2", func := "strongbox/strongboxlaw07.StoreMap", spec := "storeMap", inPlace := ["maps.clone"], unfollowed := true, recurses := true, apart := false, narrowed := true }
def StoreMapUptoSaid : Prop := storeMapUptoRow.holds Try.pinned (OpenSpec.upto storeMapSpec)

/-- 'strongboxlaw07.StoreSame', WHERE WHAT IT READS IS OF BULK AT MOST 1048576: true; the input reads as it did. -/
def storeSameUptoRow : OpenClaim := { program := "ytcepdigeimedoaa", sum := "d5e316703b4eb1eb022a540507eefb9d43b86c08e6e4b2ad65976e32103b42f2", func := "strongbox/strongboxlaw07.StoreSame", spec := "storeSame", inPlace := ["maps.clone"], unfollowed := true, recurses := true, apart := false, narrowed := true }
def StoreSameUptoSaid : Prop := storeSameUptoRow.holds Try.pinned (OpenSpec.upto storeSameSpec)

/-- 'strongboxlaw07.StoreNames', WHERE WHAT IT READS IS OF BULK AT MOST 1048576: true; the input reads as it did. -/
def storeNamesUptoRow : OpenClaim := { program := "ytcepdigeimedoaa", sum := "d5e316703b4eb1eb022a540507eefb9d43b86c08e6e4b2ad65976e32103b42f2", func := "strongbox/strongboxlaw07.StoreNames", spec := "storeNames", inPlace := ["maps.clone"], unfollowed := true, recurses := true, apart := false, narrowed := true }
def StoreNamesUptoSaid : Prop := storeNamesUptoRow.holds Try.pinned (OpenSpec.upto storeNamesSpec)

/-- 'strongboxlaw07.StorePlays', WHERE WHAT IT READS IS OF BULK AT MOST 1048576: true; the input reads as it did. -/
def storePlaysUptoRow : OpenClaim := { program := "ytcepdigeimedoaa", sum := "d5e316703b4eb1eb022a540507eefb9d43b86c08e6e4b2ad65976e32103b42f2", func := "strongbox/strongboxlaw07.StorePlays", spec := "storePlays", inPlace := ["maps.clone"], unfollowed := true, recurses := true, apart := false, narrowed := true }
def StorePlaysUptoSaid : Prop := storePlaysUptoRow.holds Try.pinned (OpenSpec.upto storePlaysSpec)

/-- 'strongboxlaw24.MarkTells', WHERE WHAT IT READS IS OF BULK AT MOST 1048576: true; the input reads as it did. -/
def markTellsUptoRow : OpenClaim := { program := "ytcepdigeimedoaa", sum := "d5e316703b4eb1eb022a540507eefb9d43b86c08e6e4b2ad65976e32103b42f2", func := "strongbox/strongboxlaw24.MarkTells", spec := "markTells", unfollowed := true, recurses := true, apart := false, narrowed := true }
def MarkTellsUptoSaid : Prop := markTellsUptoRow.holds Try.pinned (OpenSpec.upto markTellsSpec)

/-- 'strongboxlaw24.MarkParts', WHERE WHAT IT READS IS OF BULK AT MOST 1048576: true; the input reads as it did. -/
def markPartsUptoRow : OpenClaim := { program := "ytcepdigeimedoaa", sum := "d5e316703b4eb1eb022a540507eefb9d43b86c08e6e4b2ad65976e32103b42f2", func := "strongbox/strongboxlaw24.MarkParts", spec := "markParts", unfollowed := true, recurses := true, apart := false, narrowed := true }
def MarkPartsUptoSaid : Prop := markPartsUptoRow.holds Try.pinned (OpenSpec.upto markPartsSpec)

/-- 'strongboxlaw24.MarkPacks', WHERE WHAT IT READS IS OF BULK AT MOST 1048576: true; the input reads as it did. -/
def markPacksUptoRow : OpenClaim := { program := "ytcepdigeimedoaa", sum := "d5e316703b4eb1eb022a540507eefb9d43b86c08e6e4b2ad65976e32103b42f2", func := "strongbox/strongboxlaw24.MarkPacks", spec := "markPacks", unfollowed := true, recurses := true, apart := false, narrowed := true }
def MarkPacksUptoSaid : Prop := markPacksUptoRow.holds Try.pinned (OpenSpec.upto markPacksSpec)

/-- 'strongboxlaw24.MarkMore', WHERE WHAT IT READS IS OF BULK AT MOST 1048576: true; the input reads as it did. -/
def markMoreUptoRow : OpenClaim := { program := "ytcepdigeimedoaa", sum := "d5e316703b4eb1eb022a540507eefb9d43b86c08e6e4b2ad65976e32103b42f2", func := "strongbox/strongboxlaw24.MarkMore", spec := "markMore", unfollowed := true, recurses := true, apart := false, narrowed := true }
def MarkMoreUptoSaid : Prop := markMoreUptoRow.holds Try.pinned (OpenSpec.upto markMoreSpec)

end Rows
end Go.Proofs.Ytcepdigeimedoaa
