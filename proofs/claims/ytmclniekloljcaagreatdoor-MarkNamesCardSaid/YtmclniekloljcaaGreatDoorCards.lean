/-
  DERIVED. GIVEN WITH THE SEED: THE CARDS: each row of YtmclniekloljcaaGreatDoorRows.lean that lists a variable, with what it lists TIED to the program's text (the seventh form; the later family's looks); each row that meets fmt, with fmt's text TOLD by the authors' own Lean function (tested against real Go, not proved from fmt's source: count such statements apart). THE CARD IS WHAT COUNTS. Prove the row's statement (the work); the ties are given (YtmclniekloljcaaGreatDoorTie.lean); close each card by the builder's one call (the guide's Derived/Test/ToyasCard.lean, 'card_holds'). Laid BY PROGRAM, IN A SANDBOX (cutbox-door.mjs). By AI agents, Wed Nov 11 2026. No macro, syntax, notation, axiom, sorry.
-/
import Derived.Test.YtmclniekloljcaaGreatDoorRows
import GoSem.ClaimSeven
namespace Go.Proofs.YtmclniekloljcaaGreatDoor
namespace Rows

/-- THE TIED CARD OF 'strongboxlaw24.MarkNames'. -/
def markNamesCard : Claim7 := { stood := { row := markNamesRow, standIns := [], harness := (true, "44c535ed1a184fe8de528f08338c93a44a8a37c211cc8ef9a7e8dc4e1f1e28ac"), looks := true }, kinds := [], alts := [], laidByText := true, laidKinds := [.data, .pinned], laidTests := true, laidLooks := .later }
def MarkNamesCardSaid : Prop := Claim7.holds Tryz.pinned (.plain (OpenSpec.ofChange markNamesSpec)) markNamesCard

/-- THE TIED CARD OF 'strongboxlaw24.MarkLess'. -/
def markLessCard : Claim7 := { stood := { row := markLessRow, standIns := [], harness := (true, "44c535ed1a184fe8de528f08338c93a44a8a37c211cc8ef9a7e8dc4e1f1e28ac"), looks := true }, kinds := [], alts := [], laidByText := true, laidKinds := [.data, .pinned], laidTests := true, laidLooks := .later }
def MarkLessCardSaid : Prop := Claim7.holds Tryz.pinned (.plain (OpenSpec.ofChange markLessSpec)) markLessCard

/-- THE SECOND FORM's CARD OF 'strongboxlaw24.MarkNames'. -/
def markNamesUptoCard : Claim7 := { stood := { row := markNamesUptoRow, standIns := [], harness := (true, "44c535ed1a184fe8de528f08338c93a44a8a37c211cc8ef9a7e8dc4e1f1e28ac"), looks := true }, kinds := [], alts := [], laidByText := true, laidKinds := [.data, .pinned], laidTests := true, laidLooks := .later }
def MarkNamesUptoCardSaid : Prop := Claim7.holds Tryz.pinned (.plain (OpenSpec.upto markNamesSpec)) markNamesUptoCard

/-- THE SECOND FORM's CARD OF 'strongboxlaw24.MarkLess'. -/
def markLessUptoCard : Claim7 := { stood := { row := markLessUptoRow, standIns := [], harness := (true, "44c535ed1a184fe8de528f08338c93a44a8a37c211cc8ef9a7e8dc4e1f1e28ac"), looks := true }, kinds := [], alts := [], laidByText := true, laidKinds := [.data, .pinned], laidTests := true, laidLooks := .later }
def MarkLessUptoCardSaid : Prop := Claim7.holds Tryz.pinned (.plain (OpenSpec.upto markLessSpec)) markLessUptoCard
end Rows
end Go.Proofs.YtmclniekloljcaaGreatDoor
