/-
  DERIVED. GIVEN WITH THE SEED: THE CARDS: each row of YtaadnlopifaagaaDoorRows.lean that lists a variable, with what it lists TIED to the program's text (the seventh form; the later family's looks); each row that meets fmt, with fmt's text TOLD by the authors' own Lean function (tested against real Go, not proved from fmt's source: count such statements apart). THE CARD IS WHAT COUNTS. Prove the row's statement (the work); the ties are given (YtaadnlopifaagaaDoorTie.lean); close each card by the builder's one call (the guide's Derived/Test/ToyasCard.lean, 'card_holds'). Laid BY PROGRAM, IN A SANDBOX (cutbox-door.mjs). By AI agents, Wed Nov 11 2026. No macro, syntax, notation, axiom, sorry.
-/
import Derived.Test.YtaadnlopifaagaaDoorRows
import GoSem.ClaimSeven
namespace Go.Proofs.YtaadnlopifaagaaDoor
namespace Rows

/-- THE TIED CARD OF 'patternbookkeep.MergeSides'. -/
def mergeSidesCard : Claim7 := { stood := { row := mergeSidesRow, standIns := [], harness := (true, "c574536e287ef0c7de503ad85f4d7ed37c62c2f7538df87ed06b2342edc3997a"), looks := false }, kinds := [], alts := [], laidByText := true, laidKinds := [.widerDeep], laidTests := true, laidLooks := .later }
def MergeSidesCardSaid : Prop := Claim7.holds Tryd.pinned (.plain (OpenSpec.ofChange mergeSidesSpec)) mergeSidesCard

/-- THE TIED CARD OF 'patternbookkeep.MergeSame'. -/
def mergeSameCard : Claim7 := { stood := { row := mergeSameRow, standIns := [], harness := (true, "c574536e287ef0c7de503ad85f4d7ed37c62c2f7538df87ed06b2342edc3997a"), looks := false }, kinds := [], alts := [], laidByText := true, laidKinds := [.widerDeep], laidTests := true, laidLooks := .later }
def MergeSameCardSaid : Prop := Claim7.holds Tryd.pinned (.plain (OpenSpec.ofChange mergeSameSpec)) mergeSameCard

/-- THE TIED CARD OF 'patternbookkeep.MergeFields'. -/
def mergeFieldsCard : Claim7 := { stood := { row := mergeFieldsRow, standIns := [], harness := (true, "c574536e287ef0c7de503ad85f4d7ed37c62c2f7538df87ed06b2342edc3997a"), looks := false }, kinds := [], alts := [], laidByText := true, laidKinds := [.widerDeep], laidTests := true, laidLooks := .later }
def MergeFieldsCardSaid : Prop := Claim7.holds Tryd.pinned (.plain (OpenSpec.ofChange mergeFieldsSpec)) mergeFieldsCard

/-- THE SECOND FORM's CARD OF 'patternbookkeep.MergeSides'. -/
def mergeSidesUptoCard : Claim7 := { stood := { row := mergeSidesUptoRow, standIns := [], harness := (true, "c574536e287ef0c7de503ad85f4d7ed37c62c2f7538df87ed06b2342edc3997a"), looks := false }, kinds := [], alts := [], laidByText := true, laidKinds := [.widerDeep], laidTests := true, laidLooks := .later }
def MergeSidesUptoCardSaid : Prop := Claim7.holds Tryd.pinned (.plain (OpenSpec.upto mergeSidesSpec)) mergeSidesUptoCard

/-- THE SECOND FORM's CARD OF 'patternbookkeep.MergeSame'. -/
def mergeSameUptoCard : Claim7 := { stood := { row := mergeSameUptoRow, standIns := [], harness := (true, "c574536e287ef0c7de503ad85f4d7ed37c62c2f7538df87ed06b2342edc3997a"), looks := false }, kinds := [], alts := [], laidByText := true, laidKinds := [.widerDeep], laidTests := true, laidLooks := .later }
def MergeSameUptoCardSaid : Prop := Claim7.holds Tryd.pinned (.plain (OpenSpec.upto mergeSameSpec)) mergeSameUptoCard

/-- THE SECOND FORM's CARD OF 'patternbookkeep.MergeFields'. -/
def mergeFieldsUptoCard : Claim7 := { stood := { row := mergeFieldsUptoRow, standIns := [], harness := (true, "c574536e287ef0c7de503ad85f4d7ed37c62c2f7538df87ed06b2342edc3997a"), looks := false }, kinds := [], alts := [], laidByText := true, laidKinds := [.widerDeep], laidTests := true, laidLooks := .later }
def MergeFieldsUptoCardSaid : Prop := Claim7.holds Tryd.pinned (.plain (OpenSpec.upto mergeFieldsSpec)) mergeFieldsUptoCard
end Rows
end Go.Proofs.YtaadnlopifaagaaDoor
