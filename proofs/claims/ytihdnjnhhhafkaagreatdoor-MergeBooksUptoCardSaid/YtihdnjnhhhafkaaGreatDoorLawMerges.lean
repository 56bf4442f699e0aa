/- The walk of patternbooklaw.merges. -/
import Derived.Test.YtihdnjnhhhafkaaGreatDoorMergeEnds
import Derived.Test.YtihdnjnhhhafkaaGreatDoorMergeBooks
set_option linter.all false
set_option maxRecDepth 100000
set_option maxHeartbeats 8000000
namespace Go.Proofs.YtihdnjnhhhafkaaGreatDoor
open Go.RowKit
def fM : FieldD := ⟨3, ⟨#[120]⟩, ⟨#[]⟩, 2, 3⟩
def tM0 : TypeD := ⟨⟨#[97]⟩, false, [], [], []⟩
def tM1 : TypeD := ⟨⟨#[97]⟩, false, [fM], [], []⟩
theorem goodM0 : goodF [tM0] = 0 := by rfl
theorem goodM1 : goodF [tM1] = 0 := by rfl
theorem booksM_ok : booksM [tM0] [tM1] [tM0] = ([tM1], [], 0) := books_left goodM0 goodM1
theorem okM0 : BookOk [tM0] := by
 intro t ht
 have : t = tM0 := by simpa using ht
 subst this
 exact ⟨(show tM0.name.size ≤ 140737488351232 by decide), (fun f hf => by cases hf), (fun x hx => by cases hx)⟩
theorem okM1 : BookOk [tM1] := by
 intro t ht
 have : t = tM1 := by simpa using ht
 subst this
 refine ⟨(show tM1.name.size ≤ 140737488351232 by decide), (fun f hf => ?_), (fun x hx => by cases hx)⟩
 have : f = fM := by simpa [tM1] using hf
 subst this
 exact ⟨(show fM.name.size ≤ 140737488351232 by decide), (show fM.type.size ≤ 140737488351232 by decide)⟩
theorem merges_any (w : World) (hW : Words w) : Calls Tryz.prog 10 #[] w (Ret w (.bool true)) := by
 have HW := Lib.hid hW
 clear hW
 have x1 : Box (((((w.alloc (.cells #[.int .i64 3, .string ⟨#[120]⟩, .string ⟨#[]⟩, .int .i64 2, .int .i64 3] 43)).alloc (.cells #[.string ⟨#[97]⟩, .bool false, .slice none 0 0, .slice none 0 0, .slice none 0 0] 38)).alloc (.cells #[.slice (some ⟨w.heap.size + 1, 0, none⟩) 1 1] 24)).alloc (.cells #[.string ⟨#[97]⟩, .bool false, .slice (some ⟨w.heap.size, 0, none⟩) 1 1, .slice none 0 0, .slice none 0 0] 38)).alloc (.cells #[.slice (some ⟨w.heap.size + 1 + 1 + 1, 0, none⟩) 1 1] 24)) w.heap.size 43 [.int .i64 3, .string ⟨#[120]⟩, .string ⟨#[]⟩, .int .i64 2, .int .i64 3] := (((((Box.new w _ _).alloc _).alloc _).alloc _).alloc _)
 have x2 : Box (((((w.alloc (.cells #[.int .i64 3, .string ⟨#[120]⟩, .string ⟨#[]⟩, .int .i64 2, .int .i64 3] 43)).alloc (.cells #[.string ⟨#[97]⟩, .bool false, .slice none 0 0, .slice none 0 0, .slice none 0 0] 38)).alloc (.cells #[.slice (some ⟨w.heap.size + 1, 0, none⟩) 1 1] 24)).alloc (.cells #[.string ⟨#[97]⟩, .bool false, .slice (some ⟨w.heap.size, 0, none⟩) 1 1, .slice none 0 0, .slice none 0 0] 38)).alloc (.cells #[.slice (some ⟨w.heap.size + 1 + 1 + 1, 0, none⟩) 1 1] 24)) (w.heap.size + 1) 38 [.string ⟨#[97]⟩, .bool false, .slice none 0 0, .slice none 0 0, .slice none 0 0] := by
  have := (((Box.new (w.alloc (.cells #[.int .i64 3, .string ⟨#[120]⟩, .string ⟨#[]⟩, .int .i64 2, .int .i64 3] 43)) 38 [.string ⟨#[97]⟩, .bool false, .slice none 0 0, .slice none 0 0, .slice none 0 0]).alloc (.cells #[.slice (some ⟨w.heap.size + 1, 0, none⟩) 1 1] 24)).alloc (.cells #[.string ⟨#[97]⟩, .bool false, .slice (some ⟨w.heap.size, 0, none⟩) 1 1, .slice none 0 0, .slice none 0 0] 38)).alloc (.cells #[.slice (some ⟨w.heap.size + 1 + 1 + 1, 0, none⟩) 1 1] 24)
  simpa using this
 have x3 : Box (((((w.alloc (.cells #[.int .i64 3, .string ⟨#[120]⟩, .string ⟨#[]⟩, .int .i64 2, .int .i64 3] 43)).alloc (.cells #[.string ⟨#[97]⟩, .bool false, .slice none 0 0, .slice none 0 0, .slice none 0 0] 38)).alloc (.cells #[.slice (some ⟨w.heap.size + 1, 0, none⟩) 1 1] 24)).alloc (.cells #[.string ⟨#[97]⟩, .bool false, .slice (some ⟨w.heap.size, 0, none⟩) 1 1, .slice none 0 0, .slice none 0 0] 38)).alloc (.cells #[.slice (some ⟨w.heap.size + 1 + 1 + 1, 0, none⟩) 1 1] 24)) (w.heap.size + 1 + 1) 24 [.slice (some ⟨w.heap.size + 1, 0, none⟩) 1 1] := by
  have := ((Box.new ((w.alloc (.cells #[.int .i64 3, .string ⟨#[120]⟩, .string ⟨#[]⟩, .int .i64 2, .int .i64 3] 43)).alloc (.cells #[.string ⟨#[97]⟩, .bool false, .slice none 0 0, .slice none 0 0, .slice none 0 0] 38)) 24 [.slice (some ⟨w.heap.size + 1, 0, none⟩) 1 1]).alloc (.cells #[.string ⟨#[97]⟩, .bool false, .slice (some ⟨w.heap.size, 0, none⟩) 1 1, .slice none 0 0, .slice none 0 0] 38)).alloc (.cells #[.slice (some ⟨w.heap.size + 1 + 1 + 1, 0, none⟩) 1 1] 24)
  simpa using this
 have x4 : Box (((((w.alloc (.cells #[.int .i64 3, .string ⟨#[120]⟩, .string ⟨#[]⟩, .int .i64 2, .int .i64 3] 43)).alloc (.cells #[.string ⟨#[97]⟩, .bool false, .slice none 0 0, .slice none 0 0, .slice none 0 0] 38)).alloc (.cells #[.slice (some ⟨w.heap.size + 1, 0, none⟩) 1 1] 24)).alloc (.cells #[.string ⟨#[97]⟩, .bool false, .slice (some ⟨w.heap.size, 0, none⟩) 1 1, .slice none 0 0, .slice none 0 0] 38)).alloc (.cells #[.slice (some ⟨w.heap.size + 1 + 1 + 1, 0, none⟩) 1 1] 24)) (w.heap.size + 1 + 1 + 1) 38 [.string ⟨#[97]⟩, .bool false, .slice (some ⟨w.heap.size, 0, none⟩) 1 1, .slice none 0 0, .slice none 0 0] := by
  have := (Box.new (((w.alloc (.cells #[.int .i64 3, .string ⟨#[120]⟩, .string ⟨#[]⟩, .int .i64 2, .int .i64 3] 43)).alloc (.cells #[.string ⟨#[97]⟩, .bool false, .slice none 0 0, .slice none 0 0, .slice none 0 0] 38)).alloc (.cells #[.slice (some ⟨w.heap.size + 1, 0, none⟩) 1 1] 24)) 38 [.string ⟨#[97]⟩, .bool false, .slice (some ⟨w.heap.size, 0, none⟩) 1 1, .slice none 0 0, .slice none 0 0]).alloc (.cells #[.slice (some ⟨w.heap.size + 1 + 1 + 1, 0, none⟩) 1 1] 24)
  simpa using this
 have x5 : Box (((((w.alloc (.cells #[.int .i64 3, .string ⟨#[120]⟩, .string ⟨#[]⟩, .int .i64 2, .int .i64 3] 43)).alloc (.cells #[.string ⟨#[97]⟩, .bool false, .slice none 0 0, .slice none 0 0, .slice none 0 0] 38)).alloc (.cells #[.slice (some ⟨w.heap.size + 1, 0, none⟩) 1 1] 24)).alloc (.cells #[.string ⟨#[97]⟩, .bool false, .slice (some ⟨w.heap.size, 0, none⟩) 1 1, .slice none 0 0, .slice none 0 0] 38)).alloc (.cells #[.slice (some ⟨w.heap.size + 1 + 1 + 1, 0, none⟩) 1 1] 24)) (w.heap.size + 1 + 1 + 1 + 1) 24 [.slice (some ⟨w.heap.size + 1 + 1 + 1, 0, none⟩) 1 1] := by
  have := Box.new ((((w.alloc (.cells #[.int .i64 3, .string ⟨#[120]⟩, .string ⟨#[]⟩, .int .i64 2, .int .i64 3] 43)).alloc (.cells #[.string ⟨#[97]⟩, .bool false, .slice none 0 0, .slice none 0 0, .slice none 0 0] 38)).alloc (.cells #[.slice (some ⟨w.heap.size + 1, 0, none⟩) 1 1] 24)).alloc (.cells #[.string ⟨#[97]⟩, .bool false, .slice (some ⟨w.heap.size, 0, none⟩) 1 1, .slice none 0 0, .slice none 0 0] 38)) 24 [.slice (some ⟨w.heap.size + 1 + 1 + 1, 0, none⟩) 1 1]
  simpa using this
 have hb : Below w.heap.size w (((((w.alloc (.cells #[.int .i64 3, .string ⟨#[120]⟩, .string ⟨#[]⟩, .int .i64 2, .int .i64 3] 43)).alloc (.cells #[.string ⟨#[97]⟩, .bool false, .slice none 0 0, .slice none 0 0, .slice none 0 0] 38)).alloc (.cells #[.slice (some ⟨w.heap.size + 1, 0, none⟩) 1 1] 24)).alloc (.cells #[.string ⟨#[97]⟩, .bool false, .slice (some ⟨w.heap.size, 0, none⟩) 1 1, .slice none 0 0, .slice none 0 0] 38)).alloc (.cells #[.slice (some ⟨w.heap.size + 1 + 1 + 1, 0, none⟩) 1 1] 24)) := by
  have h1 := (Below.refl w.heap.size w).alloc (Nat.le_refl _) (.cells #[.int .i64 3, .string ⟨#[120]⟩, .string ⟨#[]⟩, .int .i64 2, .int .i64 3] 43)
  have h2 := h1.alloc h1.size (.cells #[.string ⟨#[97]⟩, .bool false, .slice none 0 0, .slice none 0 0, .slice none 0 0] 38)
  have h3 := h2.alloc h2.size (.cells #[.slice (some ⟨w.heap.size + 1, 0, none⟩) 1 1] 24)
  have h4 := h3.alloc h3.size (.cells #[.string ⟨#[97]⟩, .bool false, .slice (some ⟨w.heap.size, 0, none⟩) 1 1, .slice none 0 0, .slice none 0 0] 38)
  exact h4.alloc h4.size (.cells #[.slice (some ⟨w.heap.size + 1 + 1 + 1, 0, none⟩) 1 1] 24)
 go_enter Tryz.func10, Tryz.ntmps10
 go_wp2_with fail
 generalize hWa : ((((w.alloc (.cells #[.int .i64 3, .string ⟨#[120]⟩, .string ⟨#[]⟩, .int .i64 2, .int .i64 3] 43)).alloc (.cells #[.string ⟨#[97]⟩, .bool false, .slice none 0 0, .slice none 0 0, .slice none 0 0] 38)).alloc (.cells #[.slice (some ⟨w.heap.size + 1, 0, none⟩) 1 1] 24)).alloc (.cells #[.string ⟨#[97]⟩, .bool false, .slice (some ⟨w.heap.size, 0, none⟩) 1 1, .slice none 0 0, .slice none 0 0] 38)).alloc (.cells #[.slice (some ⟨w.heap.size + 1 + 1 + 1, 0, none⟩) 1 1] 24) = Wa at *
 clear hWa
 have hf : RSl 5 56 RField (fun _ => True) Wa [.slice (some ⟨w.heap.size, 0, none⟩) 1 1] [fM] := RSl.of_box_flat (xs := [fM]) x1 trivial (by decide) (by decide) (fun x _ => rfl)
 have h0 : RSl 5 96 RType (fun _ => True) Wa [.slice (some ⟨w.heap.size + 1, 0, none⟩) 1 1] [tM0] := RSl.of_box (css := [[.string ⟨#[97]⟩, .bool false, .slice none 0 0, .slice none 0 0, .slice none 0 0]]) (xs := [tM0]) x2 rfl trivial (by decide) (by decide) (by
  intro k x cs hx hcs
  cases k with
  | zero =>
   have e1 : tM0 = x := by simpa using hx
   have e2 : [.string ⟨#[97]⟩, .bool false, .slice none 0 0, .slice none 0 0, .slice none 0 0] = cs := by simpa using hcs
   subst e1 e2
   exact ⟨rfl, _, _, _, rfl, RSl.nil_, RSl.nil_, RSl.nil_⟩
  | succ k => simp at hx)
 have h1 : RSl 5 96 RType (fun _ => True) Wa [.slice (some ⟨w.heap.size + 1 + 1 + 1, 0, none⟩) 1 1] [tM1] := RSl.of_box (css := [[.string ⟨#[97]⟩, .bool false, .slice (some ⟨w.heap.size, 0, none⟩) 1 1, .slice none 0 0, .slice none 0 0]]) (xs := [tM1]) x4 rfl trivial (by decide) (by decide) (by
  intro k x cs hx hcs
  cases k with
  | zero =>
   have e1 : tM1 = x := by simpa using hx
   have e2 : [.string ⟨#[97]⟩, .bool false, .slice (some ⟨w.heap.size, 0, none⟩) 1 1, .slice none 0 0, .slice none 0 0] = cs := by simpa using hcs
   subst e1 e2
   exact ⟨rfl, _, _, _, rfl, hf, RSl.nil_, RSl.nil_⟩
  | succ k => simp at hx)
 have hcall := books_any (fun _ => True) _ _ _ [tM0] [tM1] [tM0] Wa h0 h1 h0 (HW.out.below hb) okM0 okM1 okM0
 rw [booksM_ok] at hcall
 have HC := Lib.hid hcall
 have H0 := Lib.hid h0
 have H1 := Lib.hid h1
 have c0 := x3.cell 0
 have l0 := x3.lt
 have c1 := x5.cell 0
 have l1 := x5.lt
 simp only [List.getElem?_cons_zero] at c0 c1
 clear hf h0 h1 hcall x1 x2 x4
 go_wp2_with fail
 refine HC.out.mono ?_
 rintro e w1 ⟨vo, vl, rfl, hro, hrl, hb1⟩
 obtain ⟨Ao, co, rfl, -, -⟩ := hro.form
 obtain ⟨Al, cl, rfl, -, -⟩ := hrl.form
 dsimp only at hro ⊢
 have hw1 := below_via hb hb1 hb.size
 have y3 := (x3.below hb1 x3.lt).alloc (.cells #[.slice Ao 1 co] 24)
 have y5 := (x5.below hb1 x5.lt).alloc (.cells #[.slice Ao 1 co] 24)
 have H0' := Lib.hid ((RSl.fair RType.fair).keep ((RSl.fair RType.fair).below H0.out hb1) (Keep.alloc _ w1 (.cells #[.slice Ao 1 co] 24)))
 have H1' := Lib.hid ((RSl.fair RType.fair).keep ((RSl.fair RType.fair).below H1.out hb1) (Keep.alloc _ w1 (.cells #[.slice Ao 1 co] 24)))
 have HR := Lib.hid ((RSl.fair RType.fair).keep hro (Keep.alloc _ w1 (.cells #[.slice Ao 1 co] 24)))
 have hwc := hw1.alloc hw1.size (.cells #[.slice Ao 1 co] 24)
 have zc := Box.new w1 24 [.slice Ao 1 co]
 clear c0 l0 c1 l1 x3 x5 hro hrl HC H0 H1 hb hb1
 have c1 := y5.cell 0
 have l1 := y5.lt
 simp only [List.getElem?_cons_zero] at c1
 go_upto_region 5 with fail
 generalize hWc : w1.alloc (.cells #[.slice Ao 1 co] 24) = Wc at *
 have c2 := zc.cell 0
 have l2 := zc.lt
 simp only [List.getElem?_cons_zero] at c2
 generalize w1.heap.size = X at *
 clear hWc
 go_wp2_with fail
 refine (same_books _ _ _ _ [tM1] _ H1'.out HR.out).mono ?_
 rintro e w2 ⟨rfl, hb2⟩
 have hw2 := below_via hwc hb2 hwc.size
 have u3 := y3.below hb2 y3.lt
 have uc := zc.below hb2 zc.lt
 have H02 := Lib.hid ((RSl.fair RType.fair).below H0'.out hb2)
 have HR2 := Lib.hid ((RSl.fair RType.fair).below HR.out hb2)
 clear c1 l1 c2 l2 hb2 H0' H1' HR
 have c1 := u3.cell 0
 have l1 := u3.lt
 have c2 := uc.cell 0
 have l2 := uc.lt
 simp only [List.getElem?_cons_zero] at c1 c2
 go_wp2_with fail
 refine (same_no _ _ _ _ tM0 tM1 _ H02.out HR2.out rfl rfl (by decide)).mono ?_
 rintro e w3 ⟨rfl, hb3⟩
 have hw3 := below_via hw2 hb3 hw2.size
 clear c1 l1 c2 l2 hb3
 go_wp2_with fail
 go_ret
 exact ⟨rfl, hw3⟩
end Go.Proofs.YtihdnjnhhhafkaaGreatDoor
