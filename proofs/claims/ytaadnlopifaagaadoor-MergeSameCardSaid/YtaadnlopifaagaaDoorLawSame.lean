/- The walk of the statement MergeSame. -/
import Derived.Test.YtaadnlopifaagaaDoorMergeMerges
namespace Go.Proofs.YtaadnlopifaagaaDoor
open Go.RowKit

set_option maxRecDepth 100000 in
set_option maxHeartbeats 8000000 in
theorem mergeSame_any (S : Nat → Prop) (va vb : Value) (was a : BookD) (w : World) (h1 : RSl 5 96 RType S w [va] was) (h2 : RSl 5 96 RType S w [vb] a) (hW : Words w) (o1 : BookOk was) (o2 : BookOk a) :
    Calls Tryd.prog 4 #[.agg #[va], .agg #[vb]] w (Ret w (.bool true)) := by
  obtain ⟨A1, k1, rfl, -, -⟩ := h1.form
  obtain ⟨A2, k2, rfl, -, -⟩ := h2.form
  obtain ⟨x1, x2, hw⟩ := boxes2 w [.slice A1 was.length k1] [.slice A2 a.length k2] 24 24
  have hR1 : ∀ W', Below w.heap.size w W' → RBook (Old w) W' [.slice A1 was.length k1] was ∧ RBook (Old w) W' [.slice A2 a.length k2] a ∧ Words W' := fun W' h =>
    ⟨RBook.fair.below (RBook.fair.old h1) h, RBook.fair.below (RBook.fair.old h2) h, hW.below h⟩
  have HR := Lib.hid hR1
  have Hg1 := Lib.hid (fun W' (h : Below w.heap.size w W') => good_any (Old w) _ was W' (hR1 W' h).1 (hR1 W' h).2.2 o1)
  have Hg2 := Lib.hid (fun W' (h : Below w.heap.size w W') => good_any (Old w) _ a W' (hR1 W' h).2.1 (hR1 W' h).2.2 o2)
  have HB1 := Lib.hid (fun (g1 : goodF was = 0) (g2 : goodF a = 0) W' (h : Below w.heap.size w W') => (books_left g1 g2 ▸ books_any (Old w) _ _ _ was a was W' (hR1 W' h).1 (hR1 W' h).2.1 (hR1 W' h).1 (hR1 W' h).2.2 o1 o2 o1 : Calls Tryd.prog 6 #[.agg #[.slice A1 was.length k1], .agg #[.slice A2 a.length k2], .agg #[.slice A1 was.length k1]] W' (BooksPost W' (a, [], 0))))
  have HB2 := Lib.hid (fun (g1 : goodF was = 0) (g2 : goodF a = 0) W' (h : Below w.heap.size w W') => (books_both g1 g2 ▸ books_any (Old w) _ _ _ was a a W' (hR1 W' h).1 (hR1 W' h).2.1 (hR1 W' h).2.1 (hR1 W' h).2.2 o1 o2 o2 : Calls Tryd.prog 6 #[.agg #[.slice A1 was.length k1], .agg #[.slice A2 a.length k2], .agg #[.slice A2 a.length k2]] W' (BooksPost W' (a, [], 0))))
  have HB3 := Lib.hid (fun (g1 : goodF was = 0) (g2 : goodF a = 0) W' (h : Below w.heap.size w W') => (books_right g2 g1 ▸ books_any (Old w) _ _ _ a a was W' (hR1 W' h).2.1 (hR1 W' h).2.1 (hR1 W' h).1 (hR1 W' h).2.2 o2 o2 o1 : Calls Tryd.prog 6 #[.agg #[.slice A2 a.length k2], .agg #[.slice A2 a.length k2], .agg #[.slice A1 was.length k1]] W' (BooksPost W' (was, [], 0))))
  have HM := Lib.hid (fun W' (h : Below w.heap.size w W') => merges_any W' (hR1 W' h).2.2)
  have c1 := x1.cell 0
  have l1 := x1.lt
  simp only [List.getElem?_cons_zero] at c1
  clear h1 h2 hW o1 o2 hR1
  go_enter Tryd.func4, Tryd.ntmps4
  go_wp2_with fail
  refine (Hg1.out _ hw).mono ?_
  rintro e w1 ⟨rfl, hb1⟩
  have hw1 := below_via hw hb1 hw.size
  have y1 := x1.below hb1 x1.lt
  have y2 := x2.below hb1 x2.lt
  clear c1 l1 x1 x2 hw hb1 Hg1
  by_cases g1 : goodF was = 0
  · have e1 : (goodF was != 0) = false := by simp [g1]
    have G1 := Lib.hid g1
    have c2 := y2.cell 0
    have l2 := y2.lt
    simp only [List.getElem?_cons_zero] at c2
    clear g1
    go_wp2_with fail
    refine (Hg2.out _ hw1).mono ?_
    rintro e w2 ⟨rfl, hb2⟩
    have hw2 := below_via hw1 hb2 hw1.size
    have z1 := y1.below hb2 y1.lt
    have z2 := y2.below hb2 y2.lt
    clear c2 l2 y1 y2 hw1 hb2 Hg2
    by_cases g2 : goodF a = 0
    · have e2 : (goodF a != 0) = false := by simp [g2]
      have G2 := Lib.hid g2
      have c1 := z1.cell 0
      have l1 := z1.lt
      have c2 := z2.cell 0
      have l2 := z2.lt
      simp only [List.getElem?_cons_zero] at c1 c2
      clear g2
      go_wp2_with fail
      refine (HB1.out G1.out G2.out _ hw2).mono ?_
      rintro e w3 ⟨vo, vl, rfl, hro, hrl, hb3⟩
      dsimp only at hro hrl ⊢
      obtain ⟨V1, v1, rfl, -, -⟩ := hro.form
      obtain ⟨L1, m1, rfl, -, -⟩ := hrl.form
      have hw3 := below_via hw2 hb3 hw2.size
      have hwa := hw3.alloc hw3.size (.cells #[.slice V1 a.length v1] 24)
      have u1 := (z1.below hb3 z1.lt).alloc (.cells #[.slice V1 a.length v1] 24)
      have u2 := (z2.below hb3 z2.lt).alloc (.cells #[.slice V1 a.length v1] 24)
      have p1 := Box.new w3 24 [.slice V1 a.length v1]
      have HO1 := Lib.hid (RBook.fair.keep hro (Keep.alloc _ w3 (.cells #[.slice V1 a.length v1] 24)))
      clear c1 l1 c2 l2 z1 z2 hw2 hro hrl hb3 HB1
      go_upto_region 4 with fail
      generalize hWa : w3.alloc (.cells #[.slice V1 a.length v1] 24) = Wa at *
      generalize hX : w3.heap.size = X at *
      clear hWa hX hw3
      have c1 := u1.cell 0
      have l1 := u1.lt
      have c2 := u2.cell 0
      have l2 := u2.lt
      simp only [List.getElem?_cons_zero] at c1 c2
      go_wp2_with fail
      refine (HB2.out G1.out G2.out _ hwa).mono ?_
      rintro e w4 ⟨vo, vl, rfl, hro, hrl, hb4⟩
      dsimp only at hro hrl ⊢
      obtain ⟨V2, v2, rfl, -, -⟩ := hro.form
      obtain ⟨L2, m2, rfl, -, -⟩ := hrl.form
      have hw4 := below_via hwa hb4 hwa.size
      have hwb := hw4.alloc hw4.size (.cells #[.slice V2 a.length v2] 24)
      have r1 := (u1.below hb4 u1.lt).alloc (.cells #[.slice V2 a.length v2] 24)
      have r2 := (u2.below hb4 u2.lt).alloc (.cells #[.slice V2 a.length v2] 24)
      have q1 := (p1.below hb4 p1.lt).alloc (.cells #[.slice V2 a.length v2] 24)
      have q2 := Box.new w4 24 [.slice V2 a.length v2]
      have HO1b := Lib.hid (RBook.fair.keep (RBook.fair.below HO1.out hb4) (Keep.alloc _ w4 (.cells #[.slice V2 a.length v2] 24)))
      have HO2 := Lib.hid (RBook.fair.keep hro (Keep.alloc _ w4 (.cells #[.slice V2 a.length v2] 24)))
      clear c1 l1 c2 l2 u1 u2 p1 hwa hro hrl hb4 HB2 HO1
      go_upto_region 5 with fail
      generalize hWb : w4.alloc (.cells #[.slice V2 a.length v2] 24) = Wb at *
      generalize hY : w4.heap.size = Y at *
      clear hWb hY hw4
      have c1 := r1.cell 0
      have l1 := r1.lt
      have c2 := r2.cell 0
      have l2 := r2.lt
      simp only [List.getElem?_cons_zero] at c1 c2
      go_wp2_with fail
      refine (HB3.out G1.out G2.out _ hwb).mono ?_
      rintro e w5 ⟨vo, vl, rfl, hro, hrl, hb5⟩
      dsimp only at hro hrl ⊢
      obtain ⟨V3, v3, rfl, -, -⟩ := hro.form
      obtain ⟨L3, m3, rfl, -, -⟩ := hrl.form
      have hw5 := below_via hwb hb5 hwb.size
      have hwc := hw5.alloc hw5.size (.cells #[.slice V3 was.length v3] 24)
      have s1 := (r1.below hb5 r1.lt).alloc (.cells #[.slice V3 was.length v3] 24)
      have s2 := (r2.below hb5 r2.lt).alloc (.cells #[.slice V3 was.length v3] 24)
      have t1 := (q1.below hb5 q1.lt).alloc (.cells #[.slice V3 was.length v3] 24)
      have t2 := (q2.below hb5 q2.lt).alloc (.cells #[.slice V3 was.length v3] 24)
      have t3 := Box.new w5 24 [.slice V3 was.length v3]
      have HO1c := Lib.hid (RBook.fair.keep (RBook.fair.below HO1b.out hb5) (Keep.alloc _ w5 (.cells #[.slice V3 was.length v3] 24)))
      have HO2c := Lib.hid (RBook.fair.keep (RBook.fair.below HO2.out hb5) (Keep.alloc _ w5 (.cells #[.slice V3 was.length v3] 24)))
      have HO3c := Lib.hid (RBook.fair.keep hro (Keep.alloc _ w5 (.cells #[.slice V3 was.length v3] 24)))
      clear c1 l1 c2 l2 r1 r2 q1 q2 hwb hro hrl hb5 HB3 HO1b HO2
      go_upto_region 6 with fail
      generalize hWc : w5.alloc (.cells #[.slice V3 was.length v3] 24) = Wc at *
      generalize hZ : w5.heap.size = Z at *
      clear hWc hZ hw5
      have c1 := t1.cell 0
      have l1 := t1.lt
      have c2 := s2.cell 0
      have l2 := s2.lt
      simp only [List.getElem?_cons_zero] at c1 c2
      go_wp2_with fail
      refine (sameBook_any _ _ _ _ a _ HO1c.out (HR.out _ hwc).2.1).mono ?_
      rintro e w6 ⟨rfl, hb6⟩
      have hw6 := below_via hwc hb6 hwc.size
      have f1 := s1.below hb6 s1.lt
      have f2 := s2.below hb6 s2.lt
      have f4 := t2.below hb6 t2.lt
      have f5 := t3.below hb6 t3.lt
      have HO2d := Lib.hid (RBook.fair.below HO2c.out hb6)
      have HO3d := Lib.hid (RBook.fair.below HO3c.out hb6)
      clear c1 l1 c2 l2 s1 s2 t1 t2 t3 hwc hb6 HO1c HO2c HO3c
      have c1 := f4.cell 0
      have l1 := f4.lt
      have c2 := f2.cell 0
      have l2 := f2.lt
      simp only [List.getElem?_cons_zero] at c1 c2
      go_wp2_with fail
      refine (sameBook_any _ _ _ _ a _ HO2d.out (HR.out _ hw6).2.1).mono ?_
      rintro e w7 ⟨rfl, hb7⟩
      have hw7 := below_via hw6 hb7 hw6.size
      have d1 := f1.below hb7 f1.lt
      have d5 := f5.below hb7 f5.lt
      have HO3e := Lib.hid (RBook.fair.below HO3d.out hb7)
      clear c1 l1 c2 l2 f1 f2 f4 f5 hw6 hb7 HO2d HO3d
      have c1 := d1.cell 0
      have l1 := d1.lt
      have c2 := d5.cell 0
      have l2 := d5.lt
      simp only [List.getElem?_cons_zero] at c1 c2
      go_wp2_with fail
      refine (sameBook_any _ _ _ _ was _ HO3e.out (HR.out _ hw7).1).mono ?_
      rintro e w8 ⟨rfl, hb8⟩
      have hw8 := below_via hw7 hb8 hw7.size
      clear c1 l1 c2 l2 d1 d5 hw7 hb8 HO3e
      go_wp2_with fail
      refine (HM.out _ hw8).mono ?_
      rintro e w9 ⟨rfl, hb9⟩
      go_wp2_with fail
      go_ret
      exact ⟨rfl, below_via hw8 hb9 hw8.size⟩
    · have e2 : (goodF a != 0) = true := by simp [g2]
      go_wp2_with fail
      refine (HM.out _ hw2).mono ?_
      rintro e w9 ⟨rfl, hb9⟩
      go_wp2_with fail
      go_ret
      exact ⟨rfl, below_via hw2 hb9 hw2.size⟩
  · have e1 : (goodF was != 0) = true := by simp [g1]
    go_wp2_with fail
    refine (HM.out _ hw1).mono ?_
    rintro e w9 ⟨rfl, hb9⟩
    go_wp2_with fail
    go_ret
    exact ⟨rfl, below_via hw1 hb9 hw1.size⟩
end Go.Proofs.YtaadnlopifaagaaDoor
