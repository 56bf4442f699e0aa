/- The walk of the statement MergeFields. -/
import Derived.Test.YtaadnlopifaagaaDoorMergeMerges
namespace Go.Proofs.YtaadnlopifaagaaDoor
open Go.RowKit

theorem fieldS_iff {t t' : TypeD} {i : Int} : fieldS t i = fieldS t' i ↔ ((fieldOf t i).getD .zero = (fieldOf t' i).getD .zero ∧ (fieldOf t i).isSome = (fieldOf t' i).isSome) := by
  unfold fieldS
  constructor
  · intro h
    injection h with h1 h2 h3 h4
    exact ⟨h3, h1⟩
  · rintro ⟨h1, h2⟩
    rw [h1, h2]
theorem run_eql_field2 (p q : FieldD) (W : World) : (binOp .eql 36 (.agg #[.int .i64 p.id, .string p.name, .string p.type, .int .i64 p.kind, .int .i64 p.rule]) (.agg #[.int .i64 q.id, .string q.name, .string q.type, .int .i64 q.kind, .int .i64 q.rule])).run Tryd.prog W = .ok (.bool (decide (p = q))) W := run_eql_field p q W

set_option maxRecDepth 100000 in
set_option maxHeartbeats 8000000 in
theorem mergeFields_any (S : Nat → Prop) (va vb vc : Value) (was a b : BookD) (name : ByteArray) (id : Int) (w : World) (h1 : RSl 5 96 RType S w [va] was) (h2 : RSl 5 96 RType S w [vb] a) (h3 : RSl 5 96 RType S w [vc] b) (hW : Words w) (o1 : BookOk was) (o2 : BookOk a) (o3 : BookOk b) :
    Calls Tryd.prog 5 #[.agg #[va], .agg #[vb], .agg #[vc], .string name, .int .i64 id] w (Ret w (.bool true)) := by
  obtain ⟨A1, k1, rfl, -, -⟩ := h1.form
  obtain ⟨A2, k2, rfl, -, -⟩ := h2.form
  obtain ⟨A3, k3, rfl, -, -⟩ := h3.form
  obtain ⟨x1, x2, x3, x4⟩ := boxes3 w [.slice A1 was.length k1] [.slice A2 a.length k2] [.slice A3 b.length k3] 24 24 24
  have hR1 : ∀ W', Below w.heap.size w W' → RBook (Old w) W' [.slice A1 was.length k1] was ∧ RBook (Old w) W' [.slice A2 a.length k2] a ∧ RBook (Old w) W' [.slice A3 b.length k3] b ∧ Words W' := fun W' h =>
    ⟨RBook.fair.below (RBook.fair.old h1) h, RBook.fair.below (RBook.fair.old h2) h, RBook.fair.below (RBook.fair.old h3) h, hW.below h⟩
  have H1 := Lib.hid (fun W' (h : Below w.heap.size w W') => books_any (Old w) _ _ _ was a b W' (hR1 W' h).1 (hR1 W' h).2.1 (hR1 W' h).2.2.1 (hR1 W' h).2.2.2 o1 o2 o3)
  have HM := Lib.hid (fun W' (h : Below w.heap.size w W') => merges_any W' (hR1 W' h).2.2.2)
  have HHa := Lib.hid (fun W' (h : Below w.heap.size w W') => has_any (Old w) _ was name id W' (hR1 W' h).1)
  have HHb := Lib.hid (fun W' (h : Below w.heap.size w W') => has_any (Old w) _ a name id W' (hR1 W' h).2.1)
  have HHc := Lib.hid (fun W' (h : Below w.heap.size w W') => has_any (Old w) _ b name id W' (hR1 W' h).2.2.1)
  have hnn := books_none (w := was) (a := a) (b := b)
  have hff := fun h => made_fields (w := was) (a := a) (b := b) h name id
  obtain ⟨⟨rb, rl, rc⟩, hr⟩ : ∃ r, r = booksM was a b := ⟨_, rfl⟩
  rw [← hr] at H1 hnn hff
  dsimp only at hnn hff
  have HN := Lib.hid hnn
  have HF := Lib.hid hff
  have c1 := x1.cell 0
  have c2 := x2.cell 0
  have c3 := x3.cell 0
  have l1 := x1.lt
  have l2 := x2.lt
  have l3 := x3.lt
  simp only [List.getElem?_cons_zero] at c1 c2 c3
  clear h1 h2 h3 hW o1 o2 o3 hR1 hnn hff hr
  go_enter Tryd.func5, Tryd.ntmps5
  go_wp2_with fail
  refine (H1.out _ x4).mono ?_
  rintro e w1 ⟨vo, vl, rfl, hro, hrl, hb1⟩
  dsimp only at hro hrl ⊢
  obtain ⟨V1, v1, rfl, hvc, hvb⟩ := hro.form
  obtain ⟨L1, m1, rfl, -, -⟩ := hrl.form
  have hw1 := below_via x4 hb1 x4.size
  have hwa := hw1.alloc hw1.size (.cells #[.slice V1 rb.length v1] 24)
  have y1 := (x1.below hb1 x1.lt).alloc (.cells #[.slice V1 rb.length v1] 24)
  have y2 := (x2.below hb1 x2.lt).alloc (.cells #[.slice V1 rb.length v1] 24)
  have y3 := (x3.below hb1 x3.lt).alloc (.cells #[.slice V1 rb.length v1] 24)
  have zo := Box.new w1 24 [.slice V1 rb.length v1]
  have HO := Lib.hid (RBook.fair.keep hro (Keep.alloc _ w1 (.cells #[.slice V1 rb.length v1] 24)))
  clear c1 c2 c3 l1 l2 l3 x1 x2 x3 x4 hro hrl hb1 H1
  go_upto_region 2 with fail
  generalize hWa : w1.alloc (.cells #[.slice V1 rb.length v1] 24) = Wa at *
  generalize hX : w1.heap.size = X at *
  clear hWa hX hw1
  by_cases hrc : rc = 0
  · subst hrc
    have hF := HF.out rfl
    clear HF HN
    go_wp2_with fail
    refine (HM.out _ hwa).mono ?_
    rintro e w2 ⟨rfl, hb2⟩
    have hw2 := below_via hwa hb2 hwa.size
    have z1 := y1.below hb2 y1.lt
    have z2 := y2.below hb2 y2.lt
    have z3 := y3.below hb2 y3.lt
    have zo2 := zo.below hb2 zo.lt
    have HO2 := Lib.hid (RBook.fair.below HO.out hb2)
    simp only [ne_eq, fieldS_iff] at hF
    obtain ⟨rA, hrA⟩ : ∃ r, r = fieldOf (typeOf was name) id := ⟨_, rfl⟩
    obtain ⟨rB, hrB⟩ : ∃ r, r = fieldOf (typeOf a name) id := ⟨_, rfl⟩
    obtain ⟨rC, hrC⟩ : ∃ r, r = fieldOf (typeOf b name) id := ⟨_, rfl⟩
    obtain ⟨rX, hrX⟩ : ∃ r, r = fieldOf (typeOf rb name) id := ⟨_, rfl⟩
    rw [← hrA] at HHa
    rw [← hrB] at HHb
    rw [← hrC] at HHc
    rw [← hrA, ← hrB, ← hrC, ← hrX] at hF
    have HrX := Lib.hid hrX
    clear hrA hrB hrC hrX y1 y2 y3 zo hwa hb2 HO
    unfold FieldPost at HHa HHb HHc
    obtain ⟨f, hf⟩ : ∃ f, f = rA.getD FieldD.zero := ⟨_, rfl⟩
    obtain ⟨g, hg⟩ : ∃ f, f = rB.getD FieldD.zero := ⟨_, rfl⟩
    obtain ⟨h, hh⟩ : ∃ f, f = rC.getD FieldD.zero := ⟨_, rfl⟩
    obtain ⟨x, hx⟩ : ∃ f, f = rX.getD FieldD.zero := ⟨_, rfl⟩
    obtain ⟨bi, hbi⟩ : ∃ b, b = rA.isSome := ⟨_, rfl⟩
    obtain ⟨bk, hbk⟩ : ∃ b, b = rB.isSome := ⟨_, rfl⟩
    obtain ⟨bm, hbm⟩ : ∃ b, b = rC.isSome := ⟨_, rfl⟩
    obtain ⟨bn, hbn⟩ : ∃ b, b = rX.isSome := ⟨_, rfl⟩
    rw [← hf, ← hbi] at HHa
    rw [← hg, ← hbk] at HHb
    rw [← hh, ← hbm] at HHc
    rw [← hf, ← hg, ← hh, ← hx, ← hbi, ← hbk, ← hbm, ← hbn] at hF
    have HXX := Lib.hid (And.intro hx hbn)
    unfold fieldCells at HHa HHb HHc
    have HFF := Lib.hid hF
    clear hf hg hh hx hbi hbk hbm hbn hF
    have c1 := z1.cell 0
    have l1 := z1.lt
    simp only [List.getElem?_cons_zero] at c1
    go_wp2_with fail
    refine (HHa.out _ hw2).mono ?_
    rintro e w3 ⟨rfl, hb3⟩
    have hw3 := below_via hw2 hb3 hw2.size
    have hwb := hw3.alloc hw3.size (.cells #[.int .i64 f.id, .string f.name, .string f.type, .int .i64 f.kind, .int .i64 f.rule] 36)
    have u2 := (z2.below hb3 z2.lt).alloc (.cells #[.int .i64 f.id, .string f.name, .string f.type, .int .i64 f.kind, .int .i64 f.rule] 36)
    have u3 := (z3.below hb3 z3.lt).alloc (.cells #[.int .i64 f.id, .string f.name, .string f.type, .int .i64 f.kind, .int .i64 f.rule] 36)
    have uo := (zo2.below hb3 zo2.lt).alloc (.cells #[.int .i64 f.id, .string f.name, .string f.type, .int .i64 f.kind, .int .i64 f.rule] 36)
    have p1 := Box.new w3 36 [.int .i64 f.id, .string f.name, .string f.type, .int .i64 f.kind, .int .i64 f.rule]
    have HO3 := Lib.hid (RBook.fair.keep (RBook.fair.below HO2.out hb3) (Keep.alloc _ w3 (.cells #[.int .i64 f.id, .string f.name, .string f.type, .int .i64 f.kind, .int .i64 f.rule] 36)))
    clear c1 l1 z1 z2 z3 zo2 hw2 hb3 HO2 HHa
    go_upto_region 5 with fail
    generalize hWb : w3.alloc (.cells #[.int .i64 f.id, .string f.name, .string f.type, .int .i64 f.kind, .int .i64 f.rule] 36) = Wb at *
    generalize hY1 : w3.heap.size = Y1 at *
    clear hWb hY1 hw3
    have c1 := u2.cell 0
    have l1 := u2.lt
    simp only [List.getElem?_cons_zero] at c1
    go_wp2_with fail
    refine (HHb.out _ hwb).mono ?_
    rintro e w4 ⟨rfl, hb4⟩
    have hw4 := below_via hwb hb4 hwb.size
    have hwc := hw4.alloc hw4.size (.cells #[.int .i64 g.id, .string g.name, .string g.type, .int .i64 g.kind, .int .i64 g.rule] 36)
    have v3 := (u3.below hb4 u3.lt).alloc (.cells #[.int .i64 g.id, .string g.name, .string g.type, .int .i64 g.kind, .int .i64 g.rule] 36)
    have vo := (uo.below hb4 uo.lt).alloc (.cells #[.int .i64 g.id, .string g.name, .string g.type, .int .i64 g.kind, .int .i64 g.rule] 36)
    have q1 := (p1.below hb4 p1.lt).alloc (.cells #[.int .i64 g.id, .string g.name, .string g.type, .int .i64 g.kind, .int .i64 g.rule] 36)
    have q2 := Box.new w4 36 [.int .i64 g.id, .string g.name, .string g.type, .int .i64 g.kind, .int .i64 g.rule]
    have HO4 := Lib.hid (RBook.fair.keep (RBook.fair.below HO3.out hb4) (Keep.alloc _ w4 (.cells #[.int .i64 g.id, .string g.name, .string g.type, .int .i64 g.kind, .int .i64 g.rule] 36)))
    clear c1 l1 u2 u3 uo p1 hwb hb4 HO3 HHb
    go_upto_region 6 with fail
    generalize hWc : w4.alloc (.cells #[.int .i64 g.id, .string g.name, .string g.type, .int .i64 g.kind, .int .i64 g.rule] 36) = Wc at *
    generalize hY2 : w4.heap.size = Y2 at *
    clear hWc hY2 hw4
    have c1 := v3.cell 0
    have l1 := v3.lt
    simp only [List.getElem?_cons_zero] at c1
    go_wp2_with fail
    refine (HHc.out _ hwc).mono ?_
    rintro e w5 ⟨rfl, hb5⟩
    have hw5 := below_via hwc hb5 hwc.size
    have hwd := hw5.alloc hw5.size (.cells #[.int .i64 h.id, .string h.name, .string h.type, .int .i64 h.kind, .int .i64 h.rule] 36)
    have xo := (vo.below hb5 vo.lt).alloc (.cells #[.int .i64 h.id, .string h.name, .string h.type, .int .i64 h.kind, .int .i64 h.rule] 36)
    have r1 := (q1.below hb5 q1.lt).alloc (.cells #[.int .i64 h.id, .string h.name, .string h.type, .int .i64 h.kind, .int .i64 h.rule] 36)
    have r2 := (q2.below hb5 q2.lt).alloc (.cells #[.int .i64 h.id, .string h.name, .string h.type, .int .i64 h.kind, .int .i64 h.rule] 36)
    have r3 := Box.new w5 36 [.int .i64 h.id, .string h.name, .string h.type, .int .i64 h.kind, .int .i64 h.rule]
    have HO5 := Lib.hid (RBook.fair.keep (RBook.fair.below HO4.out hb5) (Keep.alloc _ w5 (.cells #[.int .i64 h.id, .string h.name, .string h.type, .int .i64 h.kind, .int .i64 h.rule] 36)))
    clear c1 l1 v3 vo q1 q2 hwc hb5 HO4 HHc
    go_upto_region 7 with fail
    generalize hWd : w5.alloc (.cells #[.int .i64 h.id, .string h.name, .string h.type, .int .i64 h.kind, .int .i64 h.rule] 36) = Wd at *
    generalize hY3 : w5.heap.size = Y3 at *
    clear hWd hY3 hw5
    have hcall := has_any _ _ rb name id Wd HO5.out
    unfold FieldPost at hcall
    rw [← HrX.out, ← HXX.out.1, ← HXX.out.2] at hcall
    unfold fieldCells at hcall
    have HCX := Lib.hid hcall
    have c1 := xo.cell 0
    have l1 := xo.lt
    simp only [List.getElem?_cons_zero] at c1
    clear hcall HXX HrX
    go_wp2_with fail
    refine HCX.out.mono ?_
    rintro e w6 ⟨rfl, hb6⟩
    have hw6 := below_via hwd hb6 hwd.size
    have hwe := hw6.alloc hw6.size (.cells #[.int .i64 x.id, .string x.name, .string x.type, .int .i64 x.kind, .int .i64 x.rule] 36)
    have s1 := (r1.below hb6 r1.lt).alloc (.cells #[.int .i64 x.id, .string x.name, .string x.type, .int .i64 x.kind, .int .i64 x.rule] 36)
    have s2 := (r2.below hb6 r2.lt).alloc (.cells #[.int .i64 x.id, .string x.name, .string x.type, .int .i64 x.kind, .int .i64 x.rule] 36)
    have s3 := (r3.below hb6 r3.lt).alloc (.cells #[.int .i64 x.id, .string x.name, .string x.type, .int .i64 x.kind, .int .i64 x.rule] 36)
    have s4 := Box.new w6 36 [.int .i64 x.id, .string x.name, .string x.type, .int .i64 x.kind, .int .i64 x.rule]
    clear c1 l1 xo r1 r2 r3 hwd hb6 HO5 HCX
    go_upto_region 8 with fail
    generalize hWe : w6.alloc (.cells #[.int .i64 x.id, .string x.name, .string x.type, .int .i64 x.kind, .int .i64 x.rule] 36) = We at *
    generalize hY4 : w6.heap.size = Y4 at *
    clear hWe hY4 hw6
    obtain ⟨a0, a1, a2, a3, a4⟩ := s1.five
    obtain ⟨b0, b1, b2, b3, b4⟩ := s2.five
    obtain ⟨c0, c1, c2, c3, c4⟩ := s3.five
    obtain ⟨d0, d1, d2, d3, d4⟩ := s4.five
    have l1 := s1.lt
    have l2 := s2.lt
    have l3 := s3.lt
    have l4 := s4.lt
    have hgd := field_guard
    obtain ⟨F1, F2, F3⟩ := HFF.out
    clear HFF s1 s2 s3 s4 hvc hvb
    by_cases hA : f = g ∧ bi = bk
    · obtain ⟨hx1, hn1⟩ := F1 hA
      obtain ⟨rfl, rfl⟩ := hA
      subst hx1
      subst hn1
      clear F1 F2 F3
      have e1 : ∀ W, _ := fun W => (run_eql_field2 f f W).trans (by rw [decide_eq_true rfl])
      have e2 : ∀ W, _ := fun W => (run_eql_field2 x x W).trans (by rw [decide_eq_true rfl])
      have e3 : (bi == bi) = true := by simp
      have e4 : (bn == bn) = true := by simp
      go_wp2_with fail
      go_ret
      exact ⟨rfl, hwe⟩
    · have hD := F3 hA
      have hE := F2 hA hD
      obtain ⟨rfl, rfl⟩ := hE
      have E1 : ∀ W, _ := fun W => run_eql_field2 f x W
      have E2 : ∀ W, _ := fun W => run_eql_field2 f h W
      have E3 : ∀ W, _ := fun W => run_eql_field2 x h W
      have E4 : ∀ W, _ := fun W => (run_eql_field2 x x W).trans (by rw [decide_eq_true rfl])
      have e4 : (bn == bn) = true := by simp
      have hA2 : (decide (f = x) && (bi == bn)) = false := by
        cases hd : decide (f = x)
        · rfl
        · have := of_decide_eq_true hd
          cases hq : (bi == bn)
          · rfl
          · exact absurd ⟨this, by simpa using hq⟩ hA
      have hD2 : ((decide (f = h) && (bi == bm)) || (decide (x = h) && (bn == bm))) = true := by
        rcases hD with ⟨d1, d2⟩ | ⟨d1, d2⟩
        · rw [decide_eq_true d1, d2]; simp
        · rw [decide_eq_true d1, d2]; simp
      clear F1 F2 F3 hA hD
      generalize decide (f = x) = t1 at *
      generalize decide (f = h) = t2 at *
      generalize decide (x = h) = t3 at *
      generalize hg1 : (bi == bn) = u1 at *
      generalize hg2 : (bi == bm) = u2 at *
      generalize hg3 : (bn == bm) = u3 at *
      cases t1 <;> cases u1 <;> cases t2 <;> cases u2 <;> cases t3 <;> cases u3 <;> simp at hA2 hD2
      all_goals
        go_wp2_with fail
        go_ret
        exact ⟨rfl, hwe⟩
  · have hrb : rb = [] := HN.out hrc
    subst hrb
    have e1 : (rc != 0) = true := by simpa using hrc
    have c1 := zo.cell 0
    have l1 := zo.lt
    simp only [List.getElem?_cons_zero, List.length_nil] at c1
    go_wp2_with fail
    refine (HM.out _ hwa).mono ?_
    rintro e w2 ⟨rfl, hb2⟩
    go_wp2_with fail
    go_ret
    exact ⟨rfl, below_via hwa hb2 hwa.size⟩
end Go.Proofs.YtaadnlopifaagaaDoor
