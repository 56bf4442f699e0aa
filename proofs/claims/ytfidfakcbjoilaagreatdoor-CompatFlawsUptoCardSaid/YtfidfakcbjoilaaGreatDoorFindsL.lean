/- The walk of patternbooklaw.finds. -/
import Derived.Test.YtfidfakcbjoilaaGreatDoorFlawsWalk
set_option linter.all false
set_option maxRecDepth 100000
set_option maxHeartbeats 8000000
namespace Go.Proofs.YtfidfakcbjoilaaGreatDoor
open Go.RowKit
def fW : FieldD := ⟨3, ⟨#[120]⟩, ⟨#[]⟩, 2, 3⟩
def fR : FieldD := ⟨3, ⟨#[120]⟩, ⟨#[]⟩, 1, 1⟩
def tW : TypeD := ⟨⟨#[97]⟩, false, [fW], [], []⟩
def tR : TypeD := ⟨⟨#[97]⟩, false, [fR], [], []⟩
theorem flawsWR : flawsF [tW] [tR] ⟨#[97]⟩ = ([⟨⟨#[97]⟩, 3, 2⟩, ⟨⟨#[97]⟩, 3, 3⟩], 0) := by kernel_rfl
theorem okW : BookOk [tW] := by
 intro t ht
 have : t = tW := by simpa using ht
 subst this
 refine ⟨(show tW.name.size ≤ 140737488351232 by decide), fun f hf => ?_, fun x hx => by cases hx⟩
 have : f = fW := by simpa [tW] using hf
 subst this
 exact ⟨(show fW.name.size ≤ 140737488351232 by decide), (show fW.type.size ≤ 140737488351232 by decide)⟩
theorem okR : BookOk [tR] := by
 intro t ht
 have : t = tR := by simpa using ht
 subst this
 refine ⟨(show tR.name.size ≤ 140737488351232 by decide), fun f hf => ?_, fun x hx => by cases hx⟩
 have : f = fR := by simpa [tR] using hf
 subst this
 exact ⟨(show fR.name.size ≤ 140737488351232 by decide), (show fR.type.size ≤ 140737488351232 by decide)⟩
theorem book_one {W : World} {g1 g2 : Nat} {n : ByteArray} {f : FieldD} (h1 : Box W g1 55 (fieldCells f)) (h2 : Box W g2 46 [.string n, .bool false, .slice (some ⟨g1, 0, none⟩) 1 1, .slice none 0 0, .slice none 0 0]) :
  RSl 5 96 RType (fun _ => True) W [.slice (some ⟨g2, 0, none⟩) 1 1] [⟨n, false, [f], [], []⟩] := by
 have hf : RSl 5 56 RField (fun _ => True) W [.slice (some ⟨g1, 0, none⟩) 1 1] [f] := RSl.of_box_flat (xs := [f]) (by simpa using h1) trivial (by simp) (by simp) (fun x _ => rfl)
 exact RSl.of_box (css := [[.string n, .bool false, .slice (some ⟨g1, 0, none⟩) 1 1, .slice none 0 0, .slice none 0 0]]) (xs := ([⟨n, false, [f], [], []⟩] : BookD)) (by simpa using h2) rfl trivial (by simp) (by simp) (by
  intro k x cs hx hcs
  cases k with
  | zero =>
   have e1 : (⟨n, false, [f], [], []⟩ : TypeD) = x := by simpa using hx
   have e2 : [Value.string n, .bool false, .slice (some ⟨g1, 0, none⟩) 1 1, .slice none 0 0, .slice none 0 0] = cs := by simpa using hcs
   subst e1 e2
   exact ⟨rfl, _, _, _, rfl, hf, RSl.nil_, RSl.nil_⟩
  | succ k => simp at hx)
theorem finds_any (w : World) (hW : Words w) : Calls Tryz.prog 10 #[] w (Ret w (.bool true)) := by
 obtain ⟨x1, x2, x3, x4⟩ := boxes3 w [.int .i64 3, .string ⟨#[120]⟩, .string ⟨#[]⟩, .int .i64 2, .int .i64 3] [.string ⟨#[97]⟩, .bool false, .slice (some ⟨w.heap.size, 0, none⟩) 1 1, .slice none 0 0, .slice none 0 0] [.slice (some ⟨w.heap.size + 1, 0, none⟩) 1 1] 55 46 24
 have HW := Lib.hid hW
 clear hW
 go_enter Tryz.func10, Tryz.ntmps10
 go_upto_region 2 with fail
 generalize hWa : ((w.alloc (.cells [.int .i64 3, .string ⟨#[120]⟩, .string ⟨#[]⟩, .int .i64 2, .int .i64 3].toArray 55)).alloc (.cells [.string ⟨#[97]⟩, .bool false, .slice (some ⟨w.heap.size, 0, none⟩) 1 1, .slice none 0 0, .slice none 0 0].toArray 46)).alloc (.cells [.slice (some ⟨w.heap.size + 1, 0, none⟩) 1 1].toArray 24) = Wa at *
 clear hWa
 obtain ⟨y1, y2, y3, y4⟩ := boxes3 Wa [.int .i64 3, .string ⟨#[120]⟩, .string ⟨#[]⟩, .int .i64 1, .int .i64 1] [.string ⟨#[97]⟩, .bool false, .slice (some ⟨Wa.heap.size, 0, none⟩) 1 1, .slice none 0 0, .slice none 0 0] [.slice (some ⟨Wa.heap.size + 1, 0, none⟩) 1 1] 55 46 24
 have u1 := x1.below y4 x1.lt
 have u2 := x2.below y4 x2.lt
 have u3 := x3.below y4 x3.lt
 have hw := below_via x4 y4 x4.size
 go_upto_region 3 with fail
 generalize hWb : ((Wa.alloc (.cells [.int .i64 3, .string ⟨#[120]⟩, .string ⟨#[]⟩, .int .i64 1, .int .i64 1].toArray 55)).alloc (.cells [.string ⟨#[97]⟩, .bool false, .slice (some ⟨Wa.heap.size, 0, none⟩) 1 1, .slice none 0 0, .slice none 0 0].toArray 46)).alloc (.cells [.slice (some ⟨Wa.heap.size + 1, 0, none⟩) 1 1].toArray 24) = Wb at *
 clear hWb
 have h1 : RSl 5 96 RType (fun _ => True) Wb [.slice (some ⟨w.heap.size + 1, 0, none⟩) 1 1] [tW] := book_one (f := fW) u1 u2
 have h2 : RSl 5 96 RType (fun _ => True) Wb [.slice (some ⟨Wa.heap.size + 1, 0, none⟩) 1 1] [tR] := book_one (f := fR) y1 y2
 have hfl := flaws_any (fun _ => True) _ _ [tW] [tR] ⟨#[97]⟩ Wb h1 h2 (HW.out.below hw) okW okR
 rw [flawsWR] at hfl
 have Hfl := Lib.hid hfl
 have z1 := u3.cell 0
 have z2 := y3.cell 0
 have l1 := u3.lt
 have l2 := y3.lt
 clear h1 h2 hfl x1 x2 x3 x4 y1 y2 y3 y4 u1 u2 u3
 go_wp2_with fail
 refine Hfl.out.mono ?_
 rintro e w1 ⟨v, rfl, hv, hb1⟩
 obtain ⟨A, cap, rfl, -, -⟩ := hv.form
 obtain ⟨g, o, rfl, -, hg⟩ := hv.base (by decide)
 have c0 := hv.flat (enc := flawCells) (k := 0) (by decide)
 have c1 := hv.flat (enc := flawCells) (k := 1) (by decide)
 have q0 : w1.cell? ⟨g, o + 2, none⟩ = some (.int .i64 2) := by have := c0.at_ 2 rfl; simpa using this
 have q1 : w1.cell? ⟨g, o + 3 + 2, none⟩ = some (.int .i64 3) := by have := c1.at_ 2 rfl; simpa using this
 have hb := below_via hw hb1 hw.size
 clear c0 c1 hv z1 z2 l1 l2 Hfl hb1 hw
 go_wp2_with fail
 go_ret
 exact ⟨rfl, hb⟩
end Go.Proofs.YtfidfakcbjoilaaGreatDoor
