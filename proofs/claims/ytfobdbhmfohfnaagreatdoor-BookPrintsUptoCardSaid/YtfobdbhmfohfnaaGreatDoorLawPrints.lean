/- The walks of patternbooklaw.books and of the statement BookPrints. -/
import Derived.Test.YtfobdbhmfohfnaaGreatDoorParse
import Derived.Test.YtfobdbhmfohfnaaGreatDoorRefPrint
import Derived.Test.YtfobdbhmfohfnaaGreatDoorRefCopy
set_option maxRecDepth 100000
set_option maxHeartbeats 8000000
namespace Go.Proofs.YtfobdbhmfohfnaaGreatDoor
open Go.RowKit
def bookT : ByteArray := ⟨#[109, 101, 115, 115, 97, 103, 101, 32, 98, 123, 49, 32, 111, 110, 101, 32, 105, 110, 116, 32, 120, 59, 125, 101, 110, 117, 109, 32, 97, 123, 48, 32, 110, 111, 59, 125]⟩
def bookAB : BookD := [⟨⟨#[97]⟩, true, [], [], [⟨⟨#[110, 111]⟩, 0⟩]⟩, ⟨⟨#[98]⟩, false, [⟨1, ⟨#[120]⟩, ⟨#[]⟩, 2, 1⟩], [], []⟩]
theorem parse_bookT : parseF (bytes bookT) = (bookAB, 0) := by kernel_rfl
theorem least_bookT : leastF bookAB 4 ⟨#[98]⟩ = 2 := by kernel_rfl
theorem booksL_any (w : World) (hW : Words w) (hN : Nums w) (hL : Lists w) : Calls Tryz.prog 15 #[] w (Ret w (.bool true)) := by
 have hp := Lib.hid (parse_any bookT w (by decide) hW hN hL)
 rw [parse_bookT] at hp
 clear hW hN hL
 unfold bookT at hp
 go_enter Tryz.func15, Tryz.ntmps15
 go_wp2_with fail
 refine hp.out.mono ?_
 rintro e w1 ⟨v, rfl, hr, hb1⟩
 obtain ⟨A, cap, rfl, hlc, hlb⟩ := hr.form
 have HR := Lib.hid hr
 obtain ⟨g, o, rfl, hSg, hgl⟩ := hr.base (by decide)
 obtain ⟨es, -, hre, hli⟩ := hr.lies (k := 0) (by decide)
 obtain ⟨es1, -, hre1, hli1⟩ := hr.lies (k := 1) (by decide)
 obtain ⟨P1, p1, P2, p2, P3, p3, rfl, -, -, -⟩ := hre.parts
 obtain ⟨Q1, q1, Q2, q2, Q3, q3, rfl, -, -, -⟩ := hre1.parts
 have b0 : w1.cell? ⟨g, o + 1, none⟩ = some (.bool true) := by have := hli.at_ 1 (show _ = some (Value.bool true) from rfl); simpa using this
 have b1 : w1.cell? ⟨g, o + 5 + 2, none⟩ = some (.slice Q1 1 q1) := by have := hli1.at_ 2 (show _ = some (Value.slice Q1 1 q1) from rfl); simpa using this
 have hlst := Lib.hid (fun W (hW' : Below w1.heap.size w1 W) => leastOf4_any _ _ bookAB ⟨#[98]⟩ W ((RSl.fair RType.fair).below hr hW'))
 clear hr hre hre1 hli hli1 hSg
 have hbl : bookAB.length = 2 := rfl
 rw [hbl] at hlc hlst ⊢
 rw [least_bookT] at hlst
 have hG := hb1.alloc hb1.size (.cells [Value.slice (some ⟨g, o, none⟩) 2 cap].toArray 24)
 have hW2 := (Below.here w1).alloc (Nat.le_refl _) (.cells [Value.slice (some ⟨g, o, none⟩) 2 cap].toArray 24)
 have hgl2 : g < w1.heap.size := hgl
 have h20 : (0 : Int) < 2 := by decide
 have h21 : (1 : Int) < 2 := by decide
 dsimp only
 clear hbl hlc hlb
 go_wp2_with fail
 refine (hlst.out _ hW2).mono ?_
 rintro e w3 ⟨rfl, hb3⟩
 have hG3 := below_via hG hb3 hG.size
 clear hW2
 go_wp2_with fail
 go_ret
 exact ⟨rfl, hG3⟩
theorem bookPrints_any (S : Nat → Prop) (vb : Value) (b : BookD) (w : World) (hb0 : RSl 5 96 RType S w [vb] b) (hW : Words w) (hN : Nums w) (hL : Lists w) (hM : MaxL w) (hB : BookOk b) (hS : BookSmall b) :
  Calls Tryz.prog 7 #[.agg #[vb]] w (Ret w (.bool true)) := by
 obtain ⟨A, cap, rfl, -, -⟩ := hb0.form
 obtain ⟨x1, x2⟩ := boxes1 w [.slice A b.length cap] 24
 have hcp := Lib.hid (fun W (h : Below w.heap.size w W) => copyBook_any S _ b W ((RSl.fair RType.fair).below hb0 h))
 have hpr := Lib.hid (fun S' A' c' W (h0 : RSl 5 96 RType S' W [.slice A' b.length c'] b) (h : Below w.heap.size w W) => print_any S' _ b W h0 (hW.below h) (hN.below h) (hL.below h) hB)
 have hrp := Lib.hid (fun W (h : Below w.heap.size w W) => refPrint_any S _ b W ((RSl.fair RType.fair).below hb0 h) (hM.below h) hB hS)
 have hbk := Lib.hid (fun W (h : Below w.heap.size w W) => booksL_any W (hW.below h) (hN.below h) (hL.below h))
 obtain ⟨p, hp⟩ : ∃ p, p = printF b := ⟨_, rfl⟩
 rw [← hp] at hpr hrp
 obtain ⟨pb, pc⟩ := p
 obtain ⟨s, hs⟩ : ∃ s : ByteArray, s = ⟨pb.toArray⟩ := ⟨_, rfl⟩
 have z0 := x1.cell 0
 have l0 := x1.lt
 clear hb0 hW hN hL hM hB hS hp
 go_enter Tryz.func7, Tryz.ntmps7
 go_wp2_with fail
 refine (hcp.out _ x2).mono ?_
 rintro e w1 ⟨A', c', rfl, hr1, hb1⟩
 have y1 := x1.below hb1 x1.lt
 have hw1 := below_via x2 hb1 x2.size
 have Hp1 := Lib.hid (hpr.out _ _ _ _ hr1 hw1)
 clear z0 l0 x1 x2 hr1 hb1 hcp hpr
 go_wp2_with fail
 refine Hp1.out.mono ?_
 rintro e w2 ⟨rfl, hb2⟩
 dsimp only
 rw [← hs]
 have v1 := y1.below hb2 y1.lt
 have hw2 := below_via hw1 hb2 hw1.size
 have z0 := v1.cell 0
 have l0 := v1.lt
 clear y1 hb2 hw1 Hp1
 go_wp2_with fail
 refine (hrp.out _ hw2).mono ?_
 rintro e w3 ⟨rfl, hb3⟩
 dsimp only
 rw [← hs]
 have hw3 := below_via hw2 hb3 hw2.size
 clear z0 l0 v1 hb3 hw2 hrp hs
 go_wp2_with fail
 refine (hbk.out _ hw3).mono ?_
 rintro e w4 ⟨rfl, hb4⟩
 go_wp2_with fail
 go_ret
 exact ⟨rfl, below_via hw3 hb4 hw3.size⟩
end Go.Proofs.YtfobdbhmfohfnaaGreatDoor
