/- The walk of patternbooklaw.books. -/
import Derived.Test.YtfobdbhmfohfnaaGreatDoorParse
import Derived.Test.YtfobdbhmfohfnaaGreatDoorWalks
set_option linter.all false
set_option maxRecDepth 100000
set_option maxHeartbeats 8000000
namespace Go.Proofs.YtfobdbhmfohfnaaGreatDoor
open Go.RowKit
def bookT : ByteArray := ⟨#[109, 101, 115, 115, 97, 103, 101, 32, 98, 123, 49, 32, 111, 110, 101, 32, 105, 110, 116, 32, 120, 59, 125, 101, 110, 117, 109, 32, 97, 123, 48, 32, 110, 111, 59, 125]⟩
def bookAB : BookD := [⟨⟨#[97]⟩, true, [], [], [⟨⟨#[110, 111]⟩, 0⟩]⟩, ⟨⟨#[98]⟩, false, [⟨1, ⟨#[120]⟩, ⟨#[]⟩, 2, 1⟩], [], []⟩]
theorem parse_bookT : parseF (bytes bookT) = (bookAB, 0) := by kernel_rfl
theorem least_bookT : leastF bookAB 4 ⟨#[98]⟩ = 2 := by kernel_rfl
theorem booksL_any (w : World) (hW : Words w) (hN : Nums w) (hL : Lists w) : Calls Tryz.prog 15 #[] w (Ret w (.bool true)) := by
 have hp := Lib.hid (parse_any bookT w (by decide) hW hN hL)
 rw [parse_bookT] at hp
 clear hW hN hL
 unfold bookT at hp
 go_enter Tryz.func15, Tryz.ntmps15
 go_wp2_with fail
 refine hp.out.mono ?_
 rintro e w1 ⟨v, rfl, hr, hb1⟩
 obtain ⟨A, cap, rfl, hlc, hlb⟩ := hr.form
 have HR := Lib.hid hr
 obtain ⟨g, o, rfl, hSg, hgl⟩ := hr.base (by decide)
 obtain ⟨es, -, hre, hli⟩ := hr.lies (k := 0) (by decide)
 obtain ⟨es1, -, hre1, hli1⟩ := hr.lies (k := 1) (by decide)
 obtain ⟨P1, p1, P2, p2, P3, p3, rfl, -, -, -⟩ := hre.parts
 obtain ⟨Q1, q1, Q2, q2, Q3, q3, rfl, -, -, -⟩ := hre1.parts
 have b0 : w1.cell? ⟨g, o + 1, none⟩ = some (.bool true) := by have := hli.at_ 1 (show _ = some (Value.bool true) from rfl); simpa using this
 have b1 : w1.cell? ⟨g, o + 5 + 2, none⟩ = some (.slice Q1 1 q1) := by have := hli1.at_ 2 (show _ = some (Value.slice Q1 1 q1) from rfl); simpa using this
 have hlst := Lib.hid (fun W (hW' : Below w1.heap.size w1 W) => leastOf4_any _ _ bookAB ⟨#[98]⟩ W ((RSl.fair RType.fair).below hr hW'))
 clear hr hre hre1 hli hli1 hSg
 have hbl : bookAB.length = 2 := rfl
 rw [hbl] at hlc hlst ⊢
 rw [least_bookT] at hlst
 have hG := hb1.alloc hb1.size (.cells [Value.slice (some ⟨g, o, none⟩) 2 cap].toArray 24)
 have hW2 := (Below.here w1).alloc (Nat.le_refl _) (.cells [Value.slice (some ⟨g, o, none⟩) 2 cap].toArray 24)
 have hgl2 : g < w1.heap.size := hgl
 have h20 : (0 : Int) < 2 := by decide
 have h21 : (1 : Int) < 2 := by decide
 dsimp only
 clear hbl hlc hlb
 go_wp2_with fail
 refine (hlst.out _ hW2).mono ?_
 rintro e w3 ⟨rfl, hb3⟩
 have hG3 := below_via hG hb3 hG.size
 clear hW2
 go_wp2_with fail
 go_ret
 exact ⟨rfl, hG3⟩
end Go.Proofs.YtfobdbhmfohfnaaGreatDoor
