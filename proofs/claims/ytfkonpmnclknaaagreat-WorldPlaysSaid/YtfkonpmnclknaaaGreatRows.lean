/-
  No cell of these rows narrows 'for every input' (looked for: loops, veiled, ifaces, maps, wideKeys, modest, calm, conditions, laid).
  DERIVED. THE GIVEN ROWS OF THIS SEAT. 6 by the template 'for every input the law returns true; each argument reads behind the call as it read before'; 0 by the template 'total and deterministic' (their statements: YtfkonpmnclknaaaGreatTotals.lean).
  GIVEN WITH THE SEED: the statements are not yours to turn. If you find one false, say at which input.
  Laid BY PROGRAM, IN A SANDBOX (cutbox-rows.mjs): the forced cells as the released guide's own fill.sh prints them over the translation 6c61b3c4c3a239c1… (all of the seat's roots in one cut). By AI agents, Wed Nov 11 2026. No macro, syntax, notation, axiom, sorry.
-/
import Derived.Test.YtfkonpmnclknaaaGreatChecked
import GoSem.Claim
import GoSem.ClaimJoined
import GoSem.ClaimMapViews
import Derived.JoinedTies
import Derived.KernelRfl
namespace Go.Proofs.YtfkonpmnclknaaaGreat
/- THE CELL 'sum', in the pinned program and in every row, IS THE sha256 OF THE DUMP (.gsa) THAT YtfkonpmnclknaaaGreatProg.lean LOADS. Nothing in Lean hashes anything: it is a label: what it is worth is what the hold of that sum in a sandbox is worth. -/
noncomputable def Tryz.pinned : Pinned := { name := "ytfkonpmnclknaaagreat", sum := "6c61b3c4c3a239c1f9e462cb036b73bfc8567337c7174a15bfd2680e4ad9e8d8", checked := Tryz.checked }
namespace Rows
def none {H : Type} : Left H := { results := [], args := [] }

/-- 'strongboxlaw08.WorldGood': WHATEVER THE INPUT: true; the input reads as it did. -/
def worldGoodSpec : ChangeSpec := { name := "worldGood", fn := fun _ => fun
  | [d1, d2, d3, d4, d5] => { results := [.lit (.bool true)], args := [d1, d2, d3, d4, d5] }
  | _ => none }
def worldGoodRow : OpenClaim := { program := "ytfkonpmnclknaaagreat", sum := "6c61b3c4c3a239c1f9e462cb036b73bfc8567337c7174a15bfd2680e4ad9e8d8", func := "strongbox/strongboxlaw08.WorldGood", spec := "worldGood", inPlace := ["maps.clone"], unfollowed := true, recurses := true, apart := false }
def WorldGoodSaid : Prop := worldGoodRow.holds Tryz.pinned (OpenSpec.ofChange worldGoodSpec)

/-- ITS FALSE NEIGHBOUR: 'it returns false'. Refute it at one input. -/
def worldGoodWrong : ChangeSpec := { name := "worldGood", fn := fun _ => fun
  | [d1, d2, d3, d4, d5] => { results := [.lit (.bool false)], args := [d1, d2, d3, d4, d5] }
  | _ => none }
def WorldGoodWrongFalsely : Prop := worldGoodRow.holds Tryz.pinned (OpenSpec.ofChange worldGoodWrong)

/-- 'strongboxlaw08.WorldCounts': WHATEVER THE INPUT: true; the input reads as it did. -/
def worldCountsSpec : ChangeSpec := { name := "worldCounts", fn := fun _ => fun
  | [d1, d2, d3] => { results := [.lit (.bool true)], args := [d1, d2, d3] }
  | _ => none }
def worldCountsRow : OpenClaim := { program := "ytfkonpmnclknaaagreat", sum := "6c61b3c4c3a239c1f9e462cb036b73bfc8567337c7174a15bfd2680e4ad9e8d8", func := "strongbox/strongboxlaw08.WorldCounts", spec := "worldCounts", inPlace := ["maps.clone"], unfollowed := true, recurses := true, apart := false }
def WorldCountsSaid : Prop := worldCountsRow.holds Tryz.pinned (OpenSpec.ofChange worldCountsSpec)

/-- ITS FALSE NEIGHBOUR: 'it returns false'. Refute it at one input. -/
def worldCountsWrong : ChangeSpec := { name := "worldCounts", fn := fun _ => fun
  | [d1, d2, d3] => { results := [.lit (.bool false)], args := [d1, d2, d3] }
  | _ => none }
def WorldCountsWrongFalsely : Prop := worldCountsRow.holds Tryz.pinned (OpenSpec.ofChange worldCountsWrong)

/-- 'strongboxlaw08.WorldSuspects': WHATEVER THE INPUT: true; the input reads as it did. -/
def worldSuspectsSpec : ChangeSpec := { name := "worldSuspects", fn := fun _ => fun
  | [d] => { results := [.lit (.bool true)], args := [d] }
  | _ => none }
def worldSuspectsRow : OpenClaim := { program := "ytfkonpmnclknaaagreat", sum := "6c61b3c4c3a239c1f9e462cb036b73bfc8567337c7174a15bfd2680e4ad9e8d8", func := "strongbox/strongboxlaw08.WorldSuspects", spec := "worldSuspects", inPlace := ["maps.clone"], unfollowed := true, recurses := true, apart := false }
def WorldSuspectsSaid : Prop := worldSuspectsRow.holds Tryz.pinned (OpenSpec.ofChange worldSuspectsSpec)

/-- ITS FALSE NEIGHBOUR: 'it returns false'. Refute it at one input. -/
def worldSuspectsWrong : ChangeSpec := { name := "worldSuspects", fn := fun _ => fun
  | [d] => { results := [.lit (.bool false)], args := [d] }
  | _ => none }
def WorldSuspectsWrongFalsely : Prop := worldSuspectsRow.holds Tryz.pinned (OpenSpec.ofChange worldSuspectsWrong)

/-- 'strongboxlaw08.WorldPlays': WHATEVER THE INPUT: true; the input reads as it did. -/
def worldPlaysSpec : ChangeSpec := { name := "worldPlays", fn := fun _ => fun
  | [d1, d2] => { results := [.lit (.bool true)], args := [d1, d2] }
  | _ => none }
def worldPlaysRow : OpenClaim := { program := "ytfkonpmnclknaaagreat", sum := "6c61b3c4c3a239c1f9e462cb036b73bfc8567337c7174a15bfd2680e4ad9e8d8", func := "strongbox/strongboxlaw08.WorldPlays", spec := "worldPlays", inPlace := ["maps.clone"], unfollowed := true, recurses := true, apart := false }
def WorldPlaysSaid : Prop := worldPlaysRow.holds Tryz.pinned (OpenSpec.ofChange worldPlaysSpec)

/-- ITS FALSE NEIGHBOUR: 'it returns false'. Refute it at one input. -/
def worldPlaysWrong : ChangeSpec := { name := "worldPlays", fn := fun _ => fun
  | [d1, d2] => { results := [.lit (.bool false)], args := [d1, d2] }
  | _ => none }
def WorldPlaysWrongFalsely : Prop := worldPlaysRow.holds Tryz.pinned (OpenSpec.ofChange worldPlaysWrong)

/-- 'strongboxlaw08.WorldDark': WHATEVER THE INPUT: true; the input reads as it did. -/
def worldDarkSpec : ChangeSpec := { name := "worldDark", fn := fun _ => fun
  | [d1, d2] => { results := [.lit (.bool true)], args := [d1, d2] }
  | _ => none }
def worldDarkRow : OpenClaim := { program := "ytfkonpmnclknaaagreat", sum := "6c61b3c4c3a239c1f9e462cb036b73bfc8567337c7174a15bfd2680e4ad9e8d8", func := "strongbox/strongboxlaw08.WorldDark", spec := "worldDark", inPlace := ["maps.clone"], unfollowed := true, recurses := true, apart := false }
def WorldDarkSaid : Prop := worldDarkRow.holds Tryz.pinned (OpenSpec.ofChange worldDarkSpec)

/-- ITS FALSE NEIGHBOUR: 'it returns false'. Refute it at one input. -/
def worldDarkWrong : ChangeSpec := { name := "worldDark", fn := fun _ => fun
  | [d1, d2] => { results := [.lit (.bool false)], args := [d1, d2] }
  | _ => none }
def WorldDarkWrongFalsely : Prop := worldDarkRow.holds Tryz.pinned (OpenSpec.ofChange worldDarkWrong)

/-- 'strongboxlaw08.WorldApart': WHATEVER THE INPUT: true; the input reads as it did. -/
def worldApartSpec : ChangeSpec := { name := "worldApart", fn := fun _ => fun
  | [d1, d2, d3] => { results := [.lit (.bool true)], args := [d1, d2, d3] }
  | _ => none }
def worldApartRow : OpenClaim := { program := "ytfkonpmnclknaaagreat", sum := "6c61b3c4c3a239c1f9e462cb036b73bfc8567337c7174a15bfd2680e4ad9e8d8", func := "strongbox/strongboxlaw08.WorldApart", spec := "worldApart", inPlace := ["maps.clone"], unfollowed := true, recurses := true, apart := false }
def WorldApartSaid : Prop := worldApartRow.holds Tryz.pinned (OpenSpec.ofChange worldApartSpec)

/-- ITS FALSE NEIGHBOUR: 'it returns false'. Refute it at one input. -/
def worldApartWrong : ChangeSpec := { name := "worldApart", fn := fun _ => fun
  | [d1, d2, d3] => { results := [.lit (.bool false)], args := [d1, d2, d3] }
  | _ => none }
def WorldApartWrongFalsely : Prop := worldApartRow.holds Tryz.pinned (OpenSpec.ofChange worldApartWrong)

/- THE SECOND FORM. 'bulk': how many values and letters a reading holds, each counted each time it is reached (what is shared counts as often as it is met; a slice's spare places count too). A statement '..UptoSaid' is the law's where the arguments, and the package variables that the reading takes, are together of bulk at most 1048576: NARROWER than '..Said'. Prove '..Said' where nothing that the law and all that it calls make is longer than what came in: it says more and counts as full. Else prove '..UptoSaid'. A law counts once. -/
mutual
def uptoBulk {H : Type} : DataW H → Nat
  | .lit (.string bytes) => bytes.length + 1
  | .lit _ => 1
  | .nil => 1
  | .ptr d => uptoBulk d + 1
  | .slice elems spare => uptoBulkAll elems + uptoBulkAll spare + 1
  | .agg parts => uptoBulkAll parts + 1
  | .iface _ d => uptoBulk d + 1
  | .map entries => uptoBulkEntries entries + 1
  | .held _ => 1
def uptoBulkAll {H : Type} : List (DataW H) → Nat
  | [] => 0
  | d :: r => uptoBulk d + uptoBulkAll r
def uptoBulkEntries {H : Type} : List (Lit × DataW H) → Nat
  | [] => 0
  | x :: r => uptoBulkEntry x + uptoBulkEntries r
def uptoBulkEntry {H : Type} : Lit × DataW H → Nat
  | (.string bytes, d) => bytes.length + uptoBulk d + 1
  | (_, d) => uptoBulk d + 1
 end
def uptoSmall : (H : Type) → List (DataW H) → Bool := fun _ ds => decide (uptoBulkAll ds ≤ 1048576)
def OpenSpec.upto (s : _root_.Go.ChangeSpec) : _root_.Go.OpenSpec := { _root_.Go.OpenSpec.ofChange s with cond := some uptoSmall }

/-- 'strongboxlaw08.WorldGood', WHERE WHAT IT READS IS OF BULK AT MOST 1048576: true; the input reads as it did. -/
def worldGoodUptoRow : OpenClaim := { program := "ytfkonpmnclknaaagreat", sum := "6c61b3c4c3a239c1f9e462cb036b73bfc8567337c7174a15bfd2680e4ad9e8d8", func := "strongbox/strongboxlaw08.WorldGood", spec := "worldGood", inPlace := ["maps.clone"], unfollowed := true, recurses := true, apart := false, narrowed := true }
def WorldGoodUptoSaid : Prop := worldGoodUptoRow.holds Tryz.pinned (OpenSpec.upto worldGoodSpec)

/-- 'strongboxlaw08.WorldCounts', WHERE WHAT IT READS IS OF BULK AT MOST 1048576: true; the input reads as it did. -/
def worldCountsUptoRow : OpenClaim := { program := "ytfkonpmnclknaaagreat", sum := "6c61b3c4c3a239c1f9e462cb036b73bfc8567337c7174a15bfd2680e4ad9e8d8", func := "strongbox/strongboxlaw08.WorldCounts", spec := "worldCounts", inPlace := ["maps.clone"], unfollowed := true, recurses := true, apart := false, narrowed := true }
def WorldCountsUptoSaid : Prop := worldCountsUptoRow.holds Tryz.pinned (OpenSpec.upto worldCountsSpec)

/-- 'strongboxlaw08.WorldSuspects', WHERE WHAT IT READS IS OF BULK AT MOST 1048576: true; the input reads as it did. -/
def worldSuspectsUptoRow : OpenClaim := { program := "ytfkonpmnclknaaagreat", sum := "6c61b3c4c3a239c1f9e462cb036b73bfc8567337c7174a15bfd2680e4ad9e8d8", func := "strongbox/strongboxlaw08.WorldSuspects", spec := "worldSuspects", inPlace := ["maps.clone"], unfollowed := true, recurses := true, apart := false, narrowed := true }
def WorldSuspectsUptoSaid : Prop := worldSuspectsUptoRow.holds Tryz.pinned (OpenSpec.upto worldSuspectsSpec)

/-- 'strongboxlaw08.WorldPlays', WHERE WHAT IT READS IS OF BULK AT MOST 1048576: true; the input reads as it did. -/
def worldPlaysUptoRow : OpenClaim := { program := "ytfkonpmnclknaaagreat", sum := "6c61b3c4c3a239c1f9e462cb036b73bfc8567337c7174a15bfd2680e4ad9e8d8", func := "strongbox/strongboxlaw08.WorldPlays", spec := "worldPlays", inPlace := ["maps.clone"], unfollowed := true, recurses := true, apart := false, narrowed := true }
def WorldPlaysUptoSaid : Prop := worldPlaysUptoRow.holds Tryz.pinned (OpenSpec.upto worldPlaysSpec)

/-- 'strongboxlaw08.WorldDark', WHERE WHAT IT READS IS OF BULK AT MOST 1048576: true; the input reads as it did. -/
def worldDarkUptoRow : OpenClaim := { program := "ytfkonpmnclknaaagreat", sum := "6c61b3c4c3a239c1f9e462cb036b73bfc8567337c7174a15bfd2680e4ad9e8d8", func := "strongbox/strongboxlaw08.WorldDark", spec := "worldDark", inPlace := ["maps.clone"], unfollowed := true, recurses := true, apart := false, narrowed := true }
def WorldDarkUptoSaid : Prop := worldDarkUptoRow.holds Tryz.pinned (OpenSpec.upto worldDarkSpec)

/-- 'strongboxlaw08.WorldApart', WHERE WHAT IT READS IS OF BULK AT MOST 1048576: true; the input reads as it did. -/
def worldApartUptoRow : OpenClaim := { program := "ytfkonpmnclknaaagreat", sum := "6c61b3c4c3a239c1f9e462cb036b73bfc8567337c7174a15bfd2680e4ad9e8d8", func := "strongbox/strongboxlaw08.WorldApart", spec := "worldApart", inPlace := ["maps.clone"], unfollowed := true, recurses := true, apart := false, narrowed := true }
def WorldApartUptoSaid : Prop := worldApartUptoRow.holds Tryz.pinned (OpenSpec.upto worldApartSpec)

end Rows
end Go.Proofs.YtfkonpmnclknaaaGreat
