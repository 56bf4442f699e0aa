/-
  DERIVED. GIVEN WITH THE SEED: THE CARDS: each row of YtfidfakcbjoilaaGreatDoorRows.lean that lists a variable, with what it lists TIED to the program's text (the seventh form; the later family's looks); each row that meets fmt, with fmt's text TOLD by the authors' own Lean function (tested against real Go, not proved from fmt's source: count such statements apart). THE CARD IS WHAT COUNTS. Prove the row's statement (the work); the ties are given (YtfidfakcbjoilaaGreatDoorTie.lean); close each card by the builder's one call (the guide's Derived/Test/ToyasCard.lean, 'card_holds'). Laid BY PROGRAM, IN A SANDBOX (cutbox-door.mjs). By AI agents, Wed Nov 11 2026. No macro, syntax, notation, axiom, sorry.
-/
import Derived.Test.YtfidfakcbjoilaaGreatDoorRows
import GoSem.ClaimSeven
namespace Go.Proofs.YtfidfakcbjoilaaGreatDoor
namespace Rows

/-- THE TIED CARD OF 'patternbooklaw.CompatFlaws'. -/
def compatFlawsCard : Claim7 := { stood := { row := compatFlawsRow, standIns := [], harness := (true, "53bb52b4d6b53913267b7b482bda5ab808f133ef44f542019e09f1c5752486cb"), looks := false }, kinds := [], alts := [], laidByText := true, laidKinds := [.data, .widerDeep, .pinned], laidTests := true, laidLooks := .later }
def CompatFlawsCardSaid : Prop := Claim7.holds Tryz.pinned (.plain (OpenSpec.ofChange compatFlawsSpec)) compatFlawsCard

/-- THE TIED CARD OF 'patternbooklaw.CompatProjects'. -/
def compatProjectsCard : Claim7 := { stood := { row := compatProjectsRow, standIns := [], harness := (true, "53bb52b4d6b53913267b7b482bda5ab808f133ef44f542019e09f1c5752486cb"), looks := false }, kinds := [], alts := [], laidByText := true, laidKinds := [.data, .widerDeep, .pinned], laidTests := true, laidLooks := .later }
def CompatProjectsCardSaid : Prop := Claim7.holds Tryz.pinned (.plain (OpenSpec.ofChange compatProjectsSpec)) compatProjectsCard

/-- THE SECOND FORM's CARD OF 'patternbooklaw.CompatFlaws'. -/
def compatFlawsUptoCard : Claim7 := { stood := { row := compatFlawsUptoRow, standIns := [], harness := (true, "53bb52b4d6b53913267b7b482bda5ab808f133ef44f542019e09f1c5752486cb"), looks := false }, kinds := [], alts := [], laidByText := true, laidKinds := [.data, .widerDeep, .pinned], laidTests := true, laidLooks := .later }
def CompatFlawsUptoCardSaid : Prop := Claim7.holds Tryz.pinned (.plain (OpenSpec.upto compatFlawsSpec)) compatFlawsUptoCard

/-- THE SECOND FORM's CARD OF 'patternbooklaw.CompatProjects'. -/
def compatProjectsUptoCard : Claim7 := { stood := { row := compatProjectsUptoRow, standIns := [], harness := (true, "53bb52b4d6b53913267b7b482bda5ab808f133ef44f542019e09f1c5752486cb"), looks := false }, kinds := [], alts := [], laidByText := true, laidKinds := [.data, .widerDeep, .pinned], laidTests := true, laidLooks := .later }
def CompatProjectsUptoCardSaid : Prop := Claim7.holds Tryz.pinned (.plain (OpenSpec.upto compatProjectsSpec)) compatProjectsUptoCard
end Rows
end Go.Proofs.YtfidfakcbjoilaaGreatDoor
