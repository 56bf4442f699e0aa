/-
  DERIVED. GIVEN WITH THE SEED: THE CARDS: each row of YtknnhpkjgnkcdaaGreatDoorRows.lean that lists a variable, with what it lists TIED to the program's text (the seventh form; the later family's looks); each row that meets fmt, with fmt's text TOLD by the authors' own Lean function (tested against real Go, not proved from fmt's source: count such statements apart). THE CARD IS WHAT COUNTS. Prove the row's statement (the work); the ties are given (YtknnhpkjgnkcdaaGreatDoorTie.lean); close each card by the builder's one call (the guide's Derived/Test/ToyasCard.lean, 'card_holds'). Laid BY PROGRAM, IN A SANDBOX (cutbox-door.mjs). By AI agents, Wed Nov 11 2026. No macro, syntax, notation, axiom, sorry.
-/
import Derived.Test.YtknnhpkjgnkcdaaGreatDoorRows
import GoSem.ClaimSeven
namespace Go.Proofs.YtknnhpkjgnkcdaaGreatDoor
namespace Rows

/-- THE TIED CARD OF 'patternbooktop.TopShows'. -/
def topShowsCard : Claim7 := { stood := { row := topShowsRow, standIns := [], harness := (true, "bce7e7d2df0512244f3c3ef50489be5e6861ad7b339d2cbd3bc9945af1e7e931"), looks := true }, kinds := [], alts := [], laidByText := true, laidKinds := [.data, .data, .data, .sentinel, .sentinel, .widerDeep, .widerDeep, .widerDeep], laidTests := true, laidLooks := .later }
def TopShowsCardSaid : Prop := Claim7.holds Tryz.pinned (.plain (OpenSpec.ofChange topShowsSpec)) topShowsCard

/-- THE TIED CARD OF 'patternbooktop.TopMemory'. -/
def topMemoryCard : Claim7 := { stood := { row := topMemoryRow, standIns := [], harness := (true, "bce7e7d2df0512244f3c3ef50489be5e6861ad7b339d2cbd3bc9945af1e7e931"), looks := true }, kinds := [], alts := [], laidByText := true, laidKinds := [.data, .data, .data, .sentinel, .sentinel, .widerDeep, .widerDeep, .widerDeep], laidTests := true, laidLooks := .later }
def TopMemoryCardSaid : Prop := Claim7.holds Tryz.pinned (.plain (OpenSpec.ofChange topMemorySpec)) topMemoryCard

/-- THE TIED CARD OF 'patternbooktop.TopReads'. -/
def topReadsCard : Claim7 := { stood := { row := topReadsRow, standIns := [], harness := (true, "bce7e7d2df0512244f3c3ef50489be5e6861ad7b339d2cbd3bc9945af1e7e931"), looks := true }, kinds := [], alts := [], laidByText := true, laidKinds := [.data, .data, .data, .sentinel, .sentinel, .widerDeep, .widerDeep, .widerDeep], laidTests := true, laidLooks := .later }
def TopReadsCardSaid : Prop := Claim7.holds Tryz.pinned (.plain (OpenSpec.ofChange topReadsSpec)) topReadsCard

/-- THE SECOND FORM's CARD OF 'patternbooktop.TopShows'. -/
def topShowsUptoCard : Claim7 := { stood := { row := topShowsUptoRow, standIns := [], harness := (true, "bce7e7d2df0512244f3c3ef50489be5e6861ad7b339d2cbd3bc9945af1e7e931"), looks := true }, kinds := [], alts := [], laidByText := true, laidKinds := [.data, .data, .data, .sentinel, .sentinel, .widerDeep, .widerDeep, .widerDeep], laidTests := true, laidLooks := .later }
def TopShowsUptoCardSaid : Prop := Claim7.holds Tryz.pinned (.plain (OpenSpec.upto topShowsSpec)) topShowsUptoCard

/-- THE SECOND FORM's CARD OF 'patternbooktop.TopMemory'. -/
def topMemoryUptoCard : Claim7 := { stood := { row := topMemoryUptoRow, standIns := [], harness := (true, "bce7e7d2df0512244f3c3ef50489be5e6861ad7b339d2cbd3bc9945af1e7e931"), looks := true }, kinds := [], alts := [], laidByText := true, laidKinds := [.data, .data, .data, .sentinel, .sentinel, .widerDeep, .widerDeep, .widerDeep], laidTests := true, laidLooks := .later }
def TopMemoryUptoCardSaid : Prop := Claim7.holds Tryz.pinned (.plain (OpenSpec.upto topMemorySpec)) topMemoryUptoCard

/-- THE SECOND FORM's CARD OF 'patternbooktop.TopReads'. -/
def topReadsUptoCard : Claim7 := { stood := { row := topReadsUptoRow, standIns := [], harness := (true, "bce7e7d2df0512244f3c3ef50489be5e6861ad7b339d2cbd3bc9945af1e7e931"), looks := true }, kinds := [], alts := [], laidByText := true, laidKinds := [.data, .data, .data, .sentinel, .sentinel, .widerDeep, .widerDeep, .widerDeep], laidTests := true, laidLooks := .later }
def TopReadsUptoCardSaid : Prop := Claim7.holds Tryz.pinned (.plain (OpenSpec.upto topReadsSpec)) topReadsUptoCard
end Rows
end Go.Proofs.YtknnhpkjgnkcdaaGreatDoor
