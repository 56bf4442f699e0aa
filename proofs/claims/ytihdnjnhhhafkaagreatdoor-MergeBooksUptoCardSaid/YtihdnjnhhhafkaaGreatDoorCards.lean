/-
  DERIVED. GIVEN WITH THE SEED: THE CARDS: each row of YtihdnjnhhhafkaaGreatDoorRows.lean that lists a variable, with what it lists TIED to the program's text (the seventh form; the later family's looks); each row that meets fmt, with fmt's text TOLD by the authors' own Lean function (tested against real Go, not proved from fmt's source: count such statements apart). THE CARD IS WHAT COUNTS. Prove the row's statement (the work); the ties are given (YtihdnjnhhhafkaaGreatDoorTie.lean); close each card by the builder's one call (the guide's Derived/Test/ToyasCard.lean, 'card_holds'). Laid BY PROGRAM, IN A SANDBOX (cutbox-door.mjs). By AI agents, Wed Nov 11 2026. No macro, syntax, notation, axiom, sorry.
-/
import Derived.Test.YtihdnjnhhhafkaaGreatDoorRows
import GoSem.ClaimSeven
namespace Go.Proofs.YtihdnjnhhhafkaaGreatDoor
namespace Rows

/-- THE TIED CARD OF 'patternbooklaw.MergeBooks'. -/
def mergeBooksCard : Claim7 := { stood := { row := mergeBooksRow, standIns := [], harness := (true, "eddbc2e23b8c5ee10d5c7b35cb5102a6ab406e5b7bdc9f25d8771fd0a6625515"), looks := false }, kinds := [], alts := [], laidByText := true, laidKinds := [.data, .widerDeep, .pinned], laidTests := true, laidLooks := .later }
def MergeBooksCardSaid : Prop := Claim7.holds Tryz.pinned (.plain (OpenSpec.ofChange mergeBooksSpec)) mergeBooksCard

/-- THE SECOND FORM's CARD OF 'patternbooklaw.MergeBooks'. -/
def mergeBooksUptoCard : Claim7 := { stood := { row := mergeBooksUptoRow, standIns := [], harness := (true, "eddbc2e23b8c5ee10d5c7b35cb5102a6ab406e5b7bdc9f25d8771fd0a6625515"), looks := false }, kinds := [], alts := [], laidByText := true, laidKinds := [.data, .widerDeep, .pinned], laidTests := true, laidLooks := .later }
def MergeBooksUptoCardSaid : Prop := Claim7.holds Tryz.pinned (.plain (OpenSpec.upto mergeBooksSpec)) mergeBooksUptoCard
end Rows
end Go.Proofs.YtihdnjnhhhafkaaGreatDoor
