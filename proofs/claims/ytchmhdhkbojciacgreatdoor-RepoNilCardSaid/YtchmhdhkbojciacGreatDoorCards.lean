/-
  DERIVED. GIVEN WITH THE SEED: THE CARDS: each row of YtchmhdhkbojciacGreatDoorRows.lean that lists a variable, with what it lists TIED to the program's text (the seventh form; the later family's looks); each row that meets fmt, with fmt's text TOLD by the authors' own Lean function (tested against real Go, not proved from fmt's source: count such statements apart). THE CARD IS WHAT COUNTS. Prove the row's statement (the work); the ties are given (YtchmhdhkbojciacGreatDoorTie.lean); close each card by the builder's one call (the guide's Derived/Test/ToyasCard.lean, 'card_holds'). Laid BY PROGRAM, IN A SANDBOX (cutbox-door.mjs). By AI agents, Wed Nov 11 2026. No macro, syntax, notation, axiom, sorry.
-/
import Derived.Test.YtchmhdhkbojciacGreatDoorRows
import GoSem.ClaimSeven
namespace Go.Proofs.YtchmhdhkbojciacGreatDoor
namespace Rows

/-- THE TIED CARD OF 'patternbooklaw.CompatProjects'. -/
def compatProjectsCard : Claim7 := { stood := { row := compatProjectsRow, standIns := [], harness := (true, "374e6a9570f4447309dfb3467ab0bbfc75447565b87ded30997d6a6dde0df33f"), looks := true }, kinds := [], alts := [], laidByText := true, laidKinds := [.data, .widerDeep, .pinned], laidTests := true, laidLooks := .later }
def CompatProjectsCardSaid : Prop := Claim7.holds Tryz.pinned (.plain (OpenSpec.ofChange compatProjectsSpec)) compatProjectsCard

/-- THE TIED CARD OF 'patternbooklaw.BookParses'. -/
def bookParsesCard : Claim7 := { stood := { row := bookParsesRow, standIns := [], harness := (true, "374e6a9570f4447309dfb3467ab0bbfc75447565b87ded30997d6a6dde0df33f"), looks := true }, kinds := [], alts := [], laidByText := true, laidKinds := [.data, .data, .data, .data, .sentinel, .sentinel, .widerDeep, .widerDeep, .widerDeep, .pinned], laidTests := true, laidLooks := .later }
def BookParsesCardSaid : Prop := Claim7.holds Tryz.pinned (.plain (OpenSpec.ofChange bookParsesSpec)) bookParsesCard

/-- THE TIED CARD OF 'patternbooklaw.BookGoods'. -/
def bookGoodsCard : Claim7 := { stood := { row := bookGoodsRow, standIns := [], harness := (true, "374e6a9570f4447309dfb3467ab0bbfc75447565b87ded30997d6a6dde0df33f"), looks := true }, kinds := [], alts := [], laidByText := true, laidKinds := [.data, .data, .data, .data, .sentinel, .sentinel, .widerDeep, .widerDeep, .widerDeep, .pinned], laidTests := true, laidLooks := .later }
def BookGoodsCardSaid : Prop := Claim7.holds Tryz.pinned (.plain (OpenSpec.ofChange bookGoodsSpec)) bookGoodsCard

/-- THE TIED CARD OF 'patternbooklaw.BookPrints'. -/
def bookPrintsCard : Claim7 := { stood := { row := bookPrintsRow, standIns := [], harness := (true, "374e6a9570f4447309dfb3467ab0bbfc75447565b87ded30997d6a6dde0df33f"), looks := true }, kinds := [], alts := [], laidByText := true, laidKinds := [.data, .data, .data, .data, .sentinel, .sentinel, .widerDeep, .widerDeep, .widerDeep, .pinned], laidTests := true, laidLooks := .later }
def BookPrintsCardSaid : Prop := Claim7.holds Tryz.pinned (.plain (OpenSpec.ofChange bookPrintsSpec)) bookPrintsCard

/-- THE TIED CARD OF 'patternbooklaw.RepoNil'. -/
def repoNilCard : Claim7 := { stood := { row := repoNilRow, standIns := [], harness := (true, "374e6a9570f4447309dfb3467ab0bbfc75447565b87ded30997d6a6dde0df33f"), looks := true }, kinds := [], alts := [], laidByText := true, laidKinds := [.data, .data, .data, .sentinel, .sentinel, .widerDeep, .widerDeep, .widerDeep], laidTests := true, laidLooks := .later }
def RepoNilCardSaid : Prop := Claim7.holds Tryz.pinned (.plain (OpenSpec.ofChange repoNilSpec)) repoNilCard

/-- THE TIED CARD OF 'patternbooklaw.RepoRuns'. -/
def repoRunsCard : Claim7 := { stood := { row := repoRunsRow, standIns := [], harness := (true, "374e6a9570f4447309dfb3467ab0bbfc75447565b87ded30997d6a6dde0df33f"), looks := true }, kinds := [], alts := [], laidByText := true, laidKinds := [.data, .data, .data, .data, .sentinel, .sentinel, .widerDeep, .widerDeep, .widerDeep, .pinned], laidTests := true, laidLooks := .later }
def RepoRunsCardSaid : Prop := Claim7.holds Tryz.pinned (.plain (OpenSpec.ofChange repoRunsSpec)) repoRunsCard

/-- THE TIED CARD OF 'patternbooklaw.RepoBehind'. -/
def repoBehindCard : Claim7 := { stood := { row := repoBehindRow, standIns := [], harness := (true, "374e6a9570f4447309dfb3467ab0bbfc75447565b87ded30997d6a6dde0df33f"), looks := true }, kinds := [], alts := [], laidByText := true, laidKinds := [.data, .data, .data, .data, .sentinel, .sentinel, .widerDeep, .widerDeep, .widerDeep, .pinned], laidTests := true, laidLooks := .later }
def RepoBehindCardSaid : Prop := Claim7.holds Tryz.pinned (.plain (OpenSpec.ofChange repoBehindSpec)) repoBehindCard

/-- THE TIED CARD OF 'patternbooklaw.RepoPlays'. -/
def repoPlaysCard : Claim7 := { stood := { row := repoPlaysRow, standIns := [], harness := (true, "374e6a9570f4447309dfb3467ab0bbfc75447565b87ded30997d6a6dde0df33f"), looks := true }, kinds := [], alts := [], laidByText := true, laidKinds := [.data, .data, .data, .data, .sentinel, .sentinel, .widerDeep, .widerDeep, .widerDeep, .pinned], laidTests := true, laidLooks := .later }
def RepoPlaysCardSaid : Prop := Claim7.holds Tryz.pinned (.plain (OpenSpec.ofChange repoPlaysSpec)) repoPlaysCard

/-- THE TIED CARD OF 'patternbooktop.TopMerges'. -/
def topMergesCard : Claim7 := { stood := { row := topMergesRow, standIns := [], harness := (true, "374e6a9570f4447309dfb3467ab0bbfc75447565b87ded30997d6a6dde0df33f"), looks := true }, kinds := [], alts := [], laidByText := true, laidKinds := [.data, .data, .data, .sentinel, .sentinel, .widerDeep, .widerDeep, .widerDeep], laidTests := true, laidLooks := .later }
def TopMergesCardSaid : Prop := Claim7.holds Tryz.pinned (.plain (OpenSpec.ofChange topMergesSpec)) topMergesCard

/-- THE TIED CARD OF 'patternbooktop.TopRuns'. -/
def topRunsCard : Claim7 := { stood := { row := topRunsRow, standIns := [], harness := (true, "374e6a9570f4447309dfb3467ab0bbfc75447565b87ded30997d6a6dde0df33f"), looks := true }, kinds := [], alts := [], laidByText := true, laidKinds := [.data, .data, .data, .sentinel, .sentinel, .widerDeep, .widerDeep, .widerDeep], laidTests := true, laidLooks := .later }
def TopRunsCardSaid : Prop := Claim7.holds Tryz.pinned (.plain (OpenSpec.ofChange topRunsSpec)) topRunsCard

/-- THE TIED CARD OF 'patternbooktop.TopGrows'. -/
def topGrowsCard : Claim7 := { stood := { row := topGrowsRow, standIns := [], harness := (true, "374e6a9570f4447309dfb3467ab0bbfc75447565b87ded30997d6a6dde0df33f"), looks := true }, kinds := [], alts := [], laidByText := true, laidKinds := [.data, .data, .data, .sentinel, .sentinel, .widerDeep, .widerDeep, .widerDeep], laidTests := true, laidLooks := .later }
def TopGrowsCardSaid : Prop := Claim7.holds Tryz.pinned (.plain (OpenSpec.ofChange topGrowsSpec)) topGrowsCard

/-- THE TIED CARD OF 'patternbooktop.TopShows'. -/
def topShowsCard : Claim7 := { stood := { row := topShowsRow, standIns := [], harness := (true, "374e6a9570f4447309dfb3467ab0bbfc75447565b87ded30997d6a6dde0df33f"), looks := true }, kinds := [], alts := [], laidByText := true, laidKinds := [.data, .data, .data, .sentinel, .sentinel, .widerDeep, .widerDeep, .widerDeep], laidTests := true, laidLooks := .later }
def TopShowsCardSaid : Prop := Claim7.holds Tryz.pinned (.plain (OpenSpec.ofChange topShowsSpec)) topShowsCard

/-- THE SECOND FORM's CARD OF 'patternbooklaw.CompatProjects'. -/
def compatProjectsUptoCard : Claim7 := { stood := { row := compatProjectsUptoRow, standIns := [], harness := (true, "374e6a9570f4447309dfb3467ab0bbfc75447565b87ded30997d6a6dde0df33f"), looks := true }, kinds := [], alts := [], laidByText := true, laidKinds := [.data, .widerDeep, .pinned], laidTests := true, laidLooks := .later }
def CompatProjectsUptoCardSaid : Prop := Claim7.holds Tryz.pinned (.plain (OpenSpec.upto compatProjectsSpec)) compatProjectsUptoCard

/-- THE SECOND FORM's CARD OF 'patternbooklaw.BookParses'. -/
def bookParsesUptoCard : Claim7 := { stood := { row := bookParsesUptoRow, standIns := [], harness := (true, "374e6a9570f4447309dfb3467ab0bbfc75447565b87ded30997d6a6dde0df33f"), looks := true }, kinds := [], alts := [], laidByText := true, laidKinds := [.data, .data, .data, .data, .sentinel, .sentinel, .widerDeep, .widerDeep, .widerDeep, .pinned], laidTests := true, laidLooks := .later }
def BookParsesUptoCardSaid : Prop := Claim7.holds Tryz.pinned (.plain (OpenSpec.upto bookParsesSpec)) bookParsesUptoCard

/-- THE SECOND FORM's CARD OF 'patternbooklaw.BookGoods'. -/
def bookGoodsUptoCard : Claim7 := { stood := { row := bookGoodsUptoRow, standIns := [], harness := (true, "374e6a9570f4447309dfb3467ab0bbfc75447565b87ded30997d6a6dde0df33f"), looks := true }, kinds := [], alts := [], laidByText := true, laidKinds := [.data, .data, .data, .data, .sentinel, .sentinel, .widerDeep, .widerDeep, .widerDeep, .pinned], laidTests := true, laidLooks := .later }
def BookGoodsUptoCardSaid : Prop := Claim7.holds Tryz.pinned (.plain (OpenSpec.upto bookGoodsSpec)) bookGoodsUptoCard

/-- THE SECOND FORM's CARD OF 'patternbooklaw.BookPrints'. -/
def bookPrintsUptoCard : Claim7 := { stood := { row := bookPrintsUptoRow, standIns := [], harness := (true, "374e6a9570f4447309dfb3467ab0bbfc75447565b87ded30997d6a6dde0df33f"), looks := true }, kinds := [], alts := [], laidByText := true, laidKinds := [.data, .data, .data, .data, .sentinel, .sentinel, .widerDeep, .widerDeep, .widerDeep, .pinned], laidTests := true, laidLooks := .later }
def BookPrintsUptoCardSaid : Prop := Claim7.holds Tryz.pinned (.plain (OpenSpec.upto bookPrintsSpec)) bookPrintsUptoCard

/-- THE SECOND FORM's CARD OF 'patternbooklaw.RepoNil'. -/
def repoNilUptoCard : Claim7 := { stood := { row := repoNilUptoRow, standIns := [], harness := (true, "374e6a9570f4447309dfb3467ab0bbfc75447565b87ded30997d6a6dde0df33f"), looks := true }, kinds := [], alts := [], laidByText := true, laidKinds := [.data, .data, .data, .sentinel, .sentinel, .widerDeep, .widerDeep, .widerDeep], laidTests := true, laidLooks := .later }
def RepoNilUptoCardSaid : Prop := Claim7.holds Tryz.pinned (.plain (OpenSpec.upto repoNilSpec)) repoNilUptoCard

/-- THE SECOND FORM's CARD OF 'patternbooklaw.RepoRuns'. -/
def repoRunsUptoCard : Claim7 := { stood := { row := repoRunsUptoRow, standIns := [], harness := (true, "374e6a9570f4447309dfb3467ab0bbfc75447565b87ded30997d6a6dde0df33f"), looks := true }, kinds := [], alts := [], laidByText := true, laidKinds := [.data, .data, .data, .data, .sentinel, .sentinel, .widerDeep, .widerDeep, .widerDeep, .pinned], laidTests := true, laidLooks := .later }
def RepoRunsUptoCardSaid : Prop := Claim7.holds Tryz.pinned (.plain (OpenSpec.upto repoRunsSpec)) repoRunsUptoCard

/-- THE SECOND FORM's CARD OF 'patternbooklaw.RepoBehind'. -/
def repoBehindUptoCard : Claim7 := { stood := { row := repoBehindUptoRow, standIns := [], harness := (true, "374e6a9570f4447309dfb3467ab0bbfc75447565b87ded30997d6a6dde0df33f"), looks := true }, kinds := [], alts := [], laidByText := true, laidKinds := [.data, .data, .data, .data, .sentinel, .sentinel, .widerDeep, .widerDeep, .widerDeep, .pinned], laidTests := true, laidLooks := .later }
def RepoBehindUptoCardSaid : Prop := Claim7.holds Tryz.pinned (.plain (OpenSpec.upto repoBehindSpec)) repoBehindUptoCard

/-- THE SECOND FORM's CARD OF 'patternbooklaw.RepoPlays'. -/
def repoPlaysUptoCard : Claim7 := { stood := { row := repoPlaysUptoRow, standIns := [], harness := (true, "374e6a9570f4447309dfb3467ab0bbfc75447565b87ded30997d6a6dde0df33f"), looks := true }, kinds := [], alts := [], laidByText := true, laidKinds := [.data, .data, .data, .data, .sentinel, .sentinel, .widerDeep, .widerDeep, .widerDeep, .pinned], laidTests := true, laidLooks := .later }
def RepoPlaysUptoCardSaid : Prop := Claim7.holds Tryz.pinned (.plain (OpenSpec.upto repoPlaysSpec)) repoPlaysUptoCard

/-- THE SECOND FORM's CARD OF 'patternbooktop.TopMerges'. -/
def topMergesUptoCard : Claim7 := { stood := { row := topMergesUptoRow, standIns := [], harness := (true, "374e6a9570f4447309dfb3467ab0bbfc75447565b87ded30997d6a6dde0df33f"), looks := true }, kinds := [], alts := [], laidByText := true, laidKinds := [.data, .data, .data, .sentinel, .sentinel, .widerDeep, .widerDeep, .widerDeep], laidTests := true, laidLooks := .later }
def TopMergesUptoCardSaid : Prop := Claim7.holds Tryz.pinned (.plain (OpenSpec.upto topMergesSpec)) topMergesUptoCard

/-- THE SECOND FORM's CARD OF 'patternbooktop.TopRuns'. -/
def topRunsUptoCard : Claim7 := { stood := { row := topRunsUptoRow, standIns := [], harness := (true, "374e6a9570f4447309dfb3467ab0bbfc75447565b87ded30997d6a6dde0df33f"), looks := true }, kinds := [], alts := [], laidByText := true, laidKinds := [.data, .data, .data, .sentinel, .sentinel, .widerDeep, .widerDeep, .widerDeep], laidTests := true, laidLooks := .later }
def TopRunsUptoCardSaid : Prop := Claim7.holds Tryz.pinned (.plain (OpenSpec.upto topRunsSpec)) topRunsUptoCard

/-- THE SECOND FORM's CARD OF 'patternbooktop.TopGrows'. -/
def topGrowsUptoCard : Claim7 := { stood := { row := topGrowsUptoRow, standIns := [], harness := (true, "374e6a9570f4447309dfb3467ab0bbfc75447565b87ded30997d6a6dde0df33f"), looks := true }, kinds := [], alts := [], laidByText := true, laidKinds := [.data, .data, .data, .sentinel, .sentinel, .widerDeep, .widerDeep, .widerDeep], laidTests := true, laidLooks := .later }
def TopGrowsUptoCardSaid : Prop := Claim7.holds Tryz.pinned (.plain (OpenSpec.upto topGrowsSpec)) topGrowsUptoCard

/-- THE SECOND FORM's CARD OF 'patternbooktop.TopShows'. -/
def topShowsUptoCard : Claim7 := { stood := { row := topShowsUptoRow, standIns := [], harness := (true, "374e6a9570f4447309dfb3467ab0bbfc75447565b87ded30997d6a6dde0df33f"), looks := true }, kinds := [], alts := [], laidByText := true, laidKinds := [.data, .data, .data, .sentinel, .sentinel, .widerDeep, .widerDeep, .widerDeep], laidTests := true, laidLooks := .later }
def TopShowsUptoCardSaid : Prop := Claim7.holds Tryz.pinned (.plain (OpenSpec.upto topShowsSpec)) topShowsUptoCard
end Rows
end Go.Proofs.YtchmhdhkbojciacGreatDoor
