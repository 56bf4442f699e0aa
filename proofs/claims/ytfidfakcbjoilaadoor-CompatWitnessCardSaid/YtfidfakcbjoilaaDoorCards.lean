/-
  DERIVED. GIVEN WITH THE SEED: THE CARDS: each row of YtfidfakcbjoilaaDoorRows.lean that lists a variable, with what it lists TIED to the program's text (the seventh form; the later family's looks); each row that meets fmt, with fmt's text TOLD by the authors' own Lean function (tested against real Go, not proved from fmt's source: count such statements apart). THE CARD IS WHAT COUNTS. Prove the row's statement (the work); the ties are given (YtfidfakcbjoilaaDoorTie.lean); close each card by the builder's one call (the guide's Derived/Test/ToyasCard.lean, 'card_holds'). Laid BY PROGRAM, IN A SANDBOX (cutbox-door.mjs). By AI agents, Wed Nov 11 2026. No macro, syntax, notation, axiom, sorry.
-/
import Derived.Test.YtfidfakcbjoilaaDoorRows
import GoSem.ClaimSeven
namespace Go.Proofs.YtfidfakcbjoilaaDoor
namespace Rows

/-- THE TIED CARD OF 'patternbookkeep.CompatSelf'. -/
def compatSelfCard : Claim7 := { stood := { row := compatSelfRow, standIns := [], harness := (true, "cd7de9cff52c4ec52c022435ef5b3d528eac6c7ef5237307da12a49c8bae6429"), looks := false }, kinds := [], alts := [], laidByText := true, laidKinds := [.widerDeep], laidTests := true, laidLooks := .later }
def CompatSelfCardSaid : Prop := Claim7.holds Tryd.pinned (.plain (OpenSpec.ofChange compatSelfSpec)) compatSelfCard

/-- THE TIED CARD OF 'patternbookkeep.CompatReads'. -/
def compatReadsCard : Claim7 := { stood := { row := compatReadsRow, standIns := [], harness := (true, "cd7de9cff52c4ec52c022435ef5b3d528eac6c7ef5237307da12a49c8bae6429"), looks := false }, kinds := [], alts := [], laidByText := true, laidKinds := [.widerDeep], laidTests := true, laidLooks := .later }
def CompatReadsCardSaid : Prop := Claim7.holds Tryd.pinned (.plain (OpenSpec.ofChange compatReadsSpec)) compatReadsCard

/-- THE TIED CARD OF 'patternbookkeep.CompatWitness'. -/
def compatWitnessCard : Claim7 := { stood := { row := compatWitnessRow, standIns := [], harness := (true, "cd7de9cff52c4ec52c022435ef5b3d528eac6c7ef5237307da12a49c8bae6429"), looks := false }, kinds := [], alts := [], laidByText := true, laidKinds := [.widerDeep], laidTests := true, laidLooks := .later }
def CompatWitnessCardSaid : Prop := Claim7.holds Tryd.pinned (.plain (OpenSpec.ofChange compatWitnessSpec)) compatWitnessCard

/-- THE SECOND FORM's CARD OF 'patternbookkeep.CompatSelf'. -/
def compatSelfUptoCard : Claim7 := { stood := { row := compatSelfUptoRow, standIns := [], harness := (true, "cd7de9cff52c4ec52c022435ef5b3d528eac6c7ef5237307da12a49c8bae6429"), looks := false }, kinds := [], alts := [], laidByText := true, laidKinds := [.widerDeep], laidTests := true, laidLooks := .later }
def CompatSelfUptoCardSaid : Prop := Claim7.holds Tryd.pinned (.plain (OpenSpec.upto compatSelfSpec)) compatSelfUptoCard

/-- THE SECOND FORM's CARD OF 'patternbookkeep.CompatReads'. -/
def compatReadsUptoCard : Claim7 := { stood := { row := compatReadsUptoRow, standIns := [], harness := (true, "cd7de9cff52c4ec52c022435ef5b3d528eac6c7ef5237307da12a49c8bae6429"), looks := false }, kinds := [], alts := [], laidByText := true, laidKinds := [.widerDeep], laidTests := true, laidLooks := .later }
def CompatReadsUptoCardSaid : Prop := Claim7.holds Tryd.pinned (.plain (OpenSpec.upto compatReadsSpec)) compatReadsUptoCard

/-- THE SECOND FORM's CARD OF 'patternbookkeep.CompatWitness'. -/
def compatWitnessUptoCard : Claim7 := { stood := { row := compatWitnessUptoRow, standIns := [], harness := (true, "cd7de9cff52c4ec52c022435ef5b3d528eac6c7ef5237307da12a49c8bae6429"), looks := false }, kinds := [], alts := [], laidByText := true, laidKinds := [.widerDeep], laidTests := true, laidLooks := .later }
def CompatWitnessUptoCardSaid : Prop := Claim7.holds Tryd.pinned (.plain (OpenSpec.upto compatWitnessSpec)) compatWitnessUptoCard
end Rows
end Go.Proofs.YtfidfakcbjoilaaDoor
