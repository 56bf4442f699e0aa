/-
  DERIVED. GIVEN WITH THE SEED: THE CARDS: each row of YtfobdbhmfohfnaaGreatDoorRows.lean that lists a variable, with what it lists TIED to the program's text (the seventh form; the later family's looks); each row that meets fmt, with fmt's text TOLD by the authors' own Lean function (tested against real Go, not proved from fmt's source: count such statements apart). THE CARD IS WHAT COUNTS. Prove the row's statement (the work); the ties are given (YtfobdbhmfohfnaaGreatDoorTie.lean); close each card by the builder's one call (the guide's Derived/Test/ToyasCard.lean, 'card_holds'). Laid BY PROGRAM, IN A SANDBOX (cutbox-door.mjs). By AI agents, Wed Nov 11 2026. No macro, syntax, notation, axiom, sorry.
-/
import Derived.Test.YtfobdbhmfohfnaaGreatDoorRows
import GoSem.ClaimSeven
namespace Go.Proofs.YtfobdbhmfohfnaaGreatDoor
namespace Rows

/-- THE TIED CARD OF 'patternbookkeep.BookBack'. -/
def bookBackCard : Claim7 := { stood := { row := bookBackRow, standIns := [], harness := (true, "790641eba604067d0d89b86980287d1ef851b91a9d446a2443f5c8bb309df5a4"), looks := true }, kinds := [], alts := [], laidByText := true, laidKinds := [.data, .data, .data, .sentinel, .sentinel, .widerDeep, .widerDeep, .widerDeep], laidTests := true, laidLooks := .later }
def BookBackCardSaid : Prop := Claim7.holds Tryz.pinned (.plain (OpenSpec.ofChange bookBackSpec)) bookBackCard

/-- THE TIED CARD OF 'patternbookkeep.BookOnce'. -/
def bookOnceCard : Claim7 := { stood := { row := bookOnceRow, standIns := [], harness := (true, "790641eba604067d0d89b86980287d1ef851b91a9d446a2443f5c8bb309df5a4"), looks := true }, kinds := [], alts := [], laidByText := true, laidKinds := [.data, .data, .data, .sentinel, .sentinel, .widerDeep, .widerDeep, .widerDeep], laidTests := true, laidLooks := .later }
def BookOnceCardSaid : Prop := Claim7.holds Tryz.pinned (.plain (OpenSpec.ofChange bookOnceSpec)) bookOnceCard

/-- THE TIED CARD OF 'patternbooklaw.BookParses'. -/
def bookParsesCard : Claim7 := { stood := { row := bookParsesRow, standIns := [], harness := (true, "790641eba604067d0d89b86980287d1ef851b91a9d446a2443f5c8bb309df5a4"), looks := true }, kinds := [], alts := [], laidByText := true, laidKinds := [.data, .data, .data, .data, .sentinel, .sentinel, .widerDeep, .widerDeep, .widerDeep, .pinned], laidTests := true, laidLooks := .later }
def BookParsesCardSaid : Prop := Claim7.holds Tryz.pinned (.plain (OpenSpec.ofChange bookParsesSpec)) bookParsesCard

/-- THE TIED CARD OF 'patternbooklaw.BookGoods'. -/
def bookGoodsCard : Claim7 := { stood := { row := bookGoodsRow, standIns := [], harness := (true, "790641eba604067d0d89b86980287d1ef851b91a9d446a2443f5c8bb309df5a4"), looks := true }, kinds := [], alts := [], laidByText := true, laidKinds := [.data, .data, .data, .data, .sentinel, .sentinel, .widerDeep, .widerDeep, .widerDeep, .pinned], laidTests := true, laidLooks := .later }
def BookGoodsCardSaid : Prop := Claim7.holds Tryz.pinned (.plain (OpenSpec.ofChange bookGoodsSpec)) bookGoodsCard

/-- THE TIED CARD OF 'patternbooklaw.BookPrints'. -/
def bookPrintsCard : Claim7 := { stood := { row := bookPrintsRow, standIns := [], harness := (true, "790641eba604067d0d89b86980287d1ef851b91a9d446a2443f5c8bb309df5a4"), looks := true }, kinds := [], alts := [], laidByText := true, laidKinds := [.data, .data, .data, .data, .sentinel, .sentinel, .widerDeep, .widerDeep, .widerDeep, .pinned], laidTests := true, laidLooks := .later }
def BookPrintsCardSaid : Prop := Claim7.holds Tryz.pinned (.plain (OpenSpec.ofChange bookPrintsSpec)) bookPrintsCard

/-- THE SECOND FORM's CARD OF 'patternbookkeep.BookBack'. -/
def bookBackUptoCard : Claim7 := { stood := { row := bookBackUptoRow, standIns := [], harness := (true, "790641eba604067d0d89b86980287d1ef851b91a9d446a2443f5c8bb309df5a4"), looks := true }, kinds := [], alts := [], laidByText := true, laidKinds := [.data, .data, .data, .sentinel, .sentinel, .widerDeep, .widerDeep, .widerDeep], laidTests := true, laidLooks := .later }
def BookBackUptoCardSaid : Prop := Claim7.holds Tryz.pinned (.plain (OpenSpec.upto bookBackSpec)) bookBackUptoCard

/-- THE SECOND FORM's CARD OF 'patternbookkeep.BookOnce'. -/
def bookOnceUptoCard : Claim7 := { stood := { row := bookOnceUptoRow, standIns := [], harness := (true, "790641eba604067d0d89b86980287d1ef851b91a9d446a2443f5c8bb309df5a4"), looks := true }, kinds := [], alts := [], laidByText := true, laidKinds := [.data, .data, .data, .sentinel, .sentinel, .widerDeep, .widerDeep, .widerDeep], laidTests := true, laidLooks := .later }
def BookOnceUptoCardSaid : Prop := Claim7.holds Tryz.pinned (.plain (OpenSpec.upto bookOnceSpec)) bookOnceUptoCard

/-- THE SECOND FORM's CARD OF 'patternbooklaw.BookParses'. -/
def bookParsesUptoCard : Claim7 := { stood := { row := bookParsesUptoRow, standIns := [], harness := (true, "790641eba604067d0d89b86980287d1ef851b91a9d446a2443f5c8bb309df5a4"), looks := true }, kinds := [], alts := [], laidByText := true, laidKinds := [.data, .data, .data, .data, .sentinel, .sentinel, .widerDeep, .widerDeep, .widerDeep, .pinned], laidTests := true, laidLooks := .later }
def BookParsesUptoCardSaid : Prop := Claim7.holds Tryz.pinned (.plain (OpenSpec.upto bookParsesSpec)) bookParsesUptoCard

/-- THE SECOND FORM's CARD OF 'patternbooklaw.BookGoods'. -/
def bookGoodsUptoCard : Claim7 := { stood := { row := bookGoodsUptoRow, standIns := [], harness := (true, "790641eba604067d0d89b86980287d1ef851b91a9d446a2443f5c8bb309df5a4"), looks := true }, kinds := [], alts := [], laidByText := true, laidKinds := [.data, .data, .data, .data, .sentinel, .sentinel, .widerDeep, .widerDeep, .widerDeep, .pinned], laidTests := true, laidLooks := .later }
def BookGoodsUptoCardSaid : Prop := Claim7.holds Tryz.pinned (.plain (OpenSpec.upto bookGoodsSpec)) bookGoodsUptoCard

/-- THE SECOND FORM's CARD OF 'patternbooklaw.BookPrints'. -/
def bookPrintsUptoCard : Claim7 := { stood := { row := bookPrintsUptoRow, standIns := [], harness := (true, "790641eba604067d0d89b86980287d1ef851b91a9d446a2443f5c8bb309df5a4"), looks := true }, kinds := [], alts := [], laidByText := true, laidKinds := [.data, .data, .data, .data, .sentinel, .sentinel, .widerDeep, .widerDeep, .widerDeep, .pinned], laidTests := true, laidLooks := .later }
def BookPrintsUptoCardSaid : Prop := Claim7.holds Tryz.pinned (.plain (OpenSpec.upto bookPrintsSpec)) bookPrintsUptoCard
end Rows
end Go.Proofs.YtfobdbhmfohfnaaGreatDoor
