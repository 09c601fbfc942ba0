/-
  DERIVED. GIVEN WITH THE SEED: THE CARDS: each row of YtdhlmhkabckbaaaGreatDoorRows.lean that lists a variable, with what it lists TIED to the program's text (the seventh form; the later family's looks); each row that meets fmt, with fmt's text TOLD by the authors' own Lean function (tested against real Go, not proved from fmt's source: count such statements apart). THE CARD IS WHAT COUNTS. Prove the row's statement (the work); the ties are given (YtdhlmhkabckbaaaGreatDoorTie.lean); close each card by the builder's one call (the guide's Derived/Test/ToyasCard.lean, 'card_holds'). Laid BY PROGRAM, IN A SANDBOX (cutbox-door.mjs). By AI agents, Wed Nov 11 2026. No macro, syntax, notation, axiom, sorry.
-/
import Derived.Test.YtdhlmhkabckbaaaGreatDoorRows
import GoSem.ClaimSeven
namespace Go.Proofs.YtdhlmhkabckbaaaGreatDoor
namespace Rows

/-- THE TIED CARD OF 'strongboxlaw24.MarkLess'. -/
def markLessCard : Claim7 := { stood := { row := markLessRow, standIns := [], harness := (true, "2c830d31e5a7aa7876f761631678601a7acd66360f082442a0a818ea8acda2a2"), looks := true }, kinds := [], alts := [], laidByText := true, laidKinds := [.data, .pinned], laidTests := true, laidLooks := .later }
def MarkLessCardSaid : Prop := Claim7.holds Tryz.pinned (.plain (OpenSpec.ofChange markLessSpec)) markLessCard

/-- THE TIED CARD OF 'strongboxlaw20.WalkBuilds'. -/
def walkBuildsCard : Claim7 := { stood := { row := walkBuildsRow, standIns := [], harness := (true, "2c830d31e5a7aa7876f761631678601a7acd66360f082442a0a818ea8acda2a2"), looks := true }, kinds := [], alts := [], laidByText := true, laidKinds := [.data, .pinned], laidTests := true, laidLooks := .later }
def WalkBuildsCardSaid : Prop := Claim7.holds Tryz.pinned (.plain (OpenSpec.ofChange walkBuildsSpec)) walkBuildsCard

/-- THE TIED CARD OF 'strongboxlaw20.WalkOne'. -/
def walkOneCard : Claim7 := { stood := { row := walkOneRow, standIns := [], harness := (true, "2c830d31e5a7aa7876f761631678601a7acd66360f082442a0a818ea8acda2a2"), looks := true }, kinds := [], alts := [], laidByText := true, laidKinds := [.data, .pinned], laidTests := true, laidLooks := .later }
def WalkOneCardSaid : Prop := Claim7.holds Tryz.pinned (.plain (OpenSpec.ofChange walkOneSpec)) walkOneCard

/-- THE TIED CARD OF 'strongboxlaw20.WalkMany'. -/
def walkManyCard : Claim7 := { stood := { row := walkManyRow, standIns := [], harness := (true, "2c830d31e5a7aa7876f761631678601a7acd66360f082442a0a818ea8acda2a2"), looks := true }, kinds := [], alts := [], laidByText := true, laidKinds := [.data, .pinned], laidTests := true, laidLooks := .later }
def WalkManyCardSaid : Prop := Claim7.holds Tryz.pinned (.plain (OpenSpec.ofChange walkManySpec)) walkManyCard

/-- THE TIED CARD OF 'strongboxlaw20.WalkShares'. -/
def walkSharesCard : Claim7 := { stood := { row := walkSharesRow, standIns := [], harness := (true, "2c830d31e5a7aa7876f761631678601a7acd66360f082442a0a818ea8acda2a2"), looks := true }, kinds := [], alts := [], laidByText := true, laidKinds := [.data, .pinned], laidTests := true, laidLooks := .later }
def WalkSharesCardSaid : Prop := Claim7.holds Tryz.pinned (.plain (OpenSpec.ofChange walkSharesSpec)) walkSharesCard

/-- THE TIED CARD OF 'strongboxlaw20.WalkNames'. -/
def walkNamesCard : Claim7 := { stood := { row := walkNamesRow, standIns := [], harness := (true, "2c830d31e5a7aa7876f761631678601a7acd66360f082442a0a818ea8acda2a2"), looks := true }, kinds := [], alts := [], laidByText := true, laidKinds := [.data, .pinned], laidTests := true, laidLooks := .later }
def WalkNamesCardSaid : Prop := Claim7.holds Tryz.pinned (.plain (OpenSpec.ofChange walkNamesSpec)) walkNamesCard

/-- THE TIED CARD OF 'strongboxlaw20.WalkBack'. -/
def walkBackCard : Claim7 := { stood := { row := walkBackRow, standIns := [], harness := (true, "2c830d31e5a7aa7876f761631678601a7acd66360f082442a0a818ea8acda2a2"), looks := true }, kinds := [], alts := [], laidByText := true, laidKinds := [.data, .pinned], laidTests := true, laidLooks := .later }
def WalkBackCardSaid : Prop := Claim7.holds Tryz.pinned (.plain (OpenSpec.ofChange walkBackSpec)) walkBackCard

/-- THE SECOND FORM's CARD OF 'strongboxlaw24.MarkLess'. -/
def markLessUptoCard : Claim7 := { stood := { row := markLessUptoRow, standIns := [], harness := (true, "2c830d31e5a7aa7876f761631678601a7acd66360f082442a0a818ea8acda2a2"), looks := true }, kinds := [], alts := [], laidByText := true, laidKinds := [.data, .pinned], laidTests := true, laidLooks := .later }
def MarkLessUptoCardSaid : Prop := Claim7.holds Tryz.pinned (.plain (OpenSpec.upto markLessSpec)) markLessUptoCard

/-- THE SECOND FORM's CARD OF 'strongboxlaw20.WalkBuilds'. -/
def walkBuildsUptoCard : Claim7 := { stood := { row := walkBuildsUptoRow, standIns := [], harness := (true, "2c830d31e5a7aa7876f761631678601a7acd66360f082442a0a818ea8acda2a2"), looks := true }, kinds := [], alts := [], laidByText := true, laidKinds := [.data, .pinned], laidTests := true, laidLooks := .later }
def WalkBuildsUptoCardSaid : Prop := Claim7.holds Tryz.pinned (.plain (OpenSpec.upto walkBuildsSpec)) walkBuildsUptoCard

/-- THE SECOND FORM's CARD OF 'strongboxlaw20.WalkOne'. -/
def walkOneUptoCard : Claim7 := { stood := { row := walkOneUptoRow, standIns := [], harness := (true, "2c830d31e5a7aa7876f761631678601a7acd66360f082442a0a818ea8acda2a2"), looks := true }, kinds := [], alts := [], laidByText := true, laidKinds := [.data, .pinned], laidTests := true, laidLooks := .later }
def WalkOneUptoCardSaid : Prop := Claim7.holds Tryz.pinned (.plain (OpenSpec.upto walkOneSpec)) walkOneUptoCard

/-- THE SECOND FORM's CARD OF 'strongboxlaw20.WalkMany'. -/
def walkManyUptoCard : Claim7 := { stood := { row := walkManyUptoRow, standIns := [], harness := (true, "2c830d31e5a7aa7876f761631678601a7acd66360f082442a0a818ea8acda2a2"), looks := true }, kinds := [], alts := [], laidByText := true, laidKinds := [.data, .pinned], laidTests := true, laidLooks := .later }
def WalkManyUptoCardSaid : Prop := Claim7.holds Tryz.pinned (.plain (OpenSpec.upto walkManySpec)) walkManyUptoCard

/-- THE SECOND FORM's CARD OF 'strongboxlaw20.WalkShares'. -/
def walkSharesUptoCard : Claim7 := { stood := { row := walkSharesUptoRow, standIns := [], harness := (true, "2c830d31e5a7aa7876f761631678601a7acd66360f082442a0a818ea8acda2a2"), looks := true }, kinds := [], alts := [], laidByText := true, laidKinds := [.data, .pinned], laidTests := true, laidLooks := .later }
def WalkSharesUptoCardSaid : Prop := Claim7.holds Tryz.pinned (.plain (OpenSpec.upto walkSharesSpec)) walkSharesUptoCard

/-- THE SECOND FORM's CARD OF 'strongboxlaw20.WalkNames'. -/
def walkNamesUptoCard : Claim7 := { stood := { row := walkNamesUptoRow, standIns := [], harness := (true, "2c830d31e5a7aa7876f761631678601a7acd66360f082442a0a818ea8acda2a2"), looks := true }, kinds := [], alts := [], laidByText := true, laidKinds := [.data, .pinned], laidTests := true, laidLooks := .later }
def WalkNamesUptoCardSaid : Prop := Claim7.holds Tryz.pinned (.plain (OpenSpec.upto walkNamesSpec)) walkNamesUptoCard

/-- THE SECOND FORM's CARD OF 'strongboxlaw20.WalkBack'. -/
def walkBackUptoCard : Claim7 := { stood := { row := walkBackUptoRow, standIns := [], harness := (true, "2c830d31e5a7aa7876f761631678601a7acd66360f082442a0a818ea8acda2a2"), looks := true }, kinds := [], alts := [], laidByText := true, laidKinds := [.data, .pinned], laidTests := true, laidLooks := .later }
def WalkBackUptoCardSaid : Prop := Claim7.holds Tryz.pinned (.plain (OpenSpec.upto walkBackSpec)) walkBackUptoCard
end Rows
end Go.Proofs.YtdhlmhkabckbaaaGreatDoor
