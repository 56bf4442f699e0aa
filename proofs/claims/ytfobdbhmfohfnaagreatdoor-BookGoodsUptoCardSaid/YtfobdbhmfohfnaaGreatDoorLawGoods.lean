/- The walk of the statement BookGoods. -/
import Derived.Test.YtfobdbhmfohfnaaGreatDoorLawBooksL
import Derived.Test.YtfobdbhmfohfnaaGreatDoorRefCopy
import Derived.Test.YtfobdbhmfohfnaaGreatDoorRefGood
import Derived.Test.YtfobdbhmfohfnaaGreatDoorRefSameB
import Derived.Test.YtfobdbhmfohfnaaGreatDoorWalks
set_option linter.all false
set_option maxRecDepth 100000
set_option maxHeartbeats 8000000
namespace Go.Proofs.YtfobdbhmfohfnaaGreatDoor
open Go.RowKit
theorem run_eql_fieldR (p : FieldD) (W : World) : (binOp .eql 44 (.agg #[.int .i64 p.id, .string p.name, .string p.type, .int .i64 p.kind, .int .i64 p.rule]) (.agg #[.int .i64 p.id, .string p.name, .string p.type, .int .i64 p.kind, .int .i64 p.rule])).run Tryz.prog W = .ok (.bool true) W := by
 have h := run_equalIn_agg (P := Tryz.prog) W 9999 44 #[.int .i64 p.id, .string p.name, .string p.type, .int .i64 p.kind, .int .i64 p.rule] #[.int .i64 p.id, .string p.name, .string p.type, .int .i64 p.kind, .int .i64 p.rule] field_fieldsR field_heldR
 rw [run_eql_struct, h]
 simp [go_sem]
theorem bookGoods_any (S : Nat → Prop) (vb : Value) (b : BookD) (name : ByteArray) (id n : Int) (w : World) (hb0 : RSl 5 96 RType S w [vb] b) (hW : Words w) (hN : Nums w) (hL : Lists w) (hM : MaxL w) (hB : BookOk b) (hsm : BookSmall b) (hns : name.size ≤ 9223372036854775807) :
  Calls Tryz.prog 6 #[.agg #[vb], .string name, .int .i64 id, .int .i64 n] w (Ret w (.bool true)) := by
 obtain ⟨A, cap, rfl, -, -⟩ := hb0.form
 obtain ⟨x1, x2⟩ := boxes1 w [.slice A b.length cap] 24
 have HB := Lib.hid ((RSl.fair RType.fair).old hb0)
 have HBo := Lib.hid hB
 have HSm := Lib.hid hsm
 have HN := Lib.hid hns
 have HWd := Lib.hid (And.intro hW (And.intro hN (And.intro hL hM)))
 have hcp := Lib.hid (fun W (h : RowKit.Below w.heap.size w W) => copyBook_any S _ b W ((RSl.fair RType.fair).below hb0 h))
 have z0 := x1.cell 0
 have l0 := x1.lt
 clear hb0 hW hN hL hM hB hsm hns
 go_enter Tryz.func6, Tryz.ntmps6
 go_wp2_with fail
 refine (hcp.out _ x2).mono ?_
 rintro e w1 ⟨A', c', rfl, hr1, hb1⟩
 have hw1 := (below_via x2 hb1 x2.size).alloc (below_via x2 hb1 x2.size).size (.cells [.slice A' b.length c'].toArray 24)
 have y1 := (x1.below hb1 x1.lt).alloc (.cells [.slice A' b.length c'].toArray 24)
 have yC := Box.new w1 24 [.slice A' b.length c']
 have hrC := (RSl.fair RType.fair).mono (T := New w) ((RSl.fair RType.fair).below hr1 ((Below.here w1).alloc (Nat.le_refl _) (.cells [.slice A' b.length c'].toArray 24))) (fun y hy _ => Nat.le_trans x2.size hy)
 clear z0 l0 x1 x2 hr1 hb1 hcp
 go_upto_region 2 with fail
 generalize w1.heap.size = C at yC ⊢
 generalize (World.alloc w1 _) = W1 at hw1 y1 yC hrC ⊢
 have z0 := yC.cell 0
 have l0 := yC.lt
 go_wp2_with fail
 refine (find_any (New w) _ b name W1 hrC).mono ?_
 rintro e w2 ⟨ct, rfl, hrt, hb2⟩
 obtain ⟨t, ht⟩ : ∃ t, t = (findT b name).getD .zero := ⟨_, rfl⟩
 obtain ⟨s1, hs1⟩ : ∃ s, s = (findT b name).isSome := ⟨_, rfl⟩
 have Ht := Lib.hid (And.intro ht hs1)
 rw [← ht] at hrt
 rw [← hs1]
 obtain ⟨P1, p1, P2, p2, P3, p3, rfl, -, -, -⟩ := hrt.parts
 have hw2 := (below_via hw1 hb2 hw1.size).alloc (below_via hw1 hb2 hw1.size).size (.cells [.string t.name, .bool t.enum, .slice P1 t.fields.length p1, .slice P2 t.gone.length p2, .slice P3 t.items.length p3].toArray 40)
 have v1 := (y1.below hb2 y1.lt).alloc (.cells [.string t.name, .bool t.enum, .slice P1 t.fields.length p1, .slice P2 t.gone.length p2, .slice P3 t.items.length p3].toArray 40)
 have vC := (yC.below hb2 yC.lt).alloc (.cells [.string t.name, .bool t.enum, .slice P1 t.fields.length p1, .slice P2 t.gone.length p2, .slice P3 t.items.length p3].toArray 40)
 have vT := Box.new w2 40 [.string t.name, .bool t.enum, .slice P1 t.fields.length p1, .slice P2 t.gone.length p2, .slice P3 t.items.length p3]
 have hrC2 := (RSl.fair RType.fair).below ((RSl.fair RType.fair).below hrC hb2) ((Below.here w2).alloc (Nat.le_refl _) (.cells [.string t.name, .bool t.enum, .slice P1 t.fields.length p1, .slice P2 t.gone.length p2, .slice P3 t.items.length p3].toArray 40))
 have hrT := RType.fair.below (RType.fair.below hrt hb2) ((Below.here w2).alloc (Nat.le_refl _) (.cells [.string t.name, .bool t.enum, .slice P1 t.fields.length p1, .slice P2 t.gone.length p2, .slice P3 t.items.length p3].toArray 40))
 clear z0 l0 y1 yC hrC hrt hb2 hw1 ht hs1
 go_upto_region 3 with fail
 generalize w2.heap.size = T at vT ⊢
 generalize (World.alloc w2 _) = W2 at hw2 v1 vC vT hrC2 hrT ⊢
 have z0 := v1.cell 0
 have l0 := v1.lt
 go_wp2_with fail
 refine (typeOf_any (Old w) _ b name W2 ((RSl.fair RType.fair).below HB.out hw2)).mono ?_
 rintro e w3 ⟨cu, rfl, hru, hb3⟩
 rw [← Ht.out.1] at hru
 rw [← Ht.out.2]
 obtain ⟨Q1, q1, Q2, q2, Q3, q3, rfl, -, -, -⟩ := hru.parts
 have hw3 := (below_via hw2 hb3 hw2.size).alloc (below_via hw2 hb3 hw2.size).size (.cells [.string t.name, .bool t.enum, .slice Q1 t.fields.length q1, .slice Q2 t.gone.length q2, .slice Q3 t.items.length q3].toArray 40)
 have y1 := (v1.below hb3 v1.lt).alloc (.cells [.string t.name, .bool t.enum, .slice Q1 t.fields.length q1, .slice Q2 t.gone.length q2, .slice Q3 t.items.length q3].toArray 40)
 have yC := (vC.below hb3 vC.lt).alloc (.cells [.string t.name, .bool t.enum, .slice Q1 t.fields.length q1, .slice Q2 t.gone.length q2, .slice Q3 t.items.length q3].toArray 40)
 have yT := (vT.below hb3 vT.lt).alloc (.cells [.string t.name, .bool t.enum, .slice Q1 t.fields.length q1, .slice Q2 t.gone.length q2, .slice Q3 t.items.length q3].toArray 40)
 have yU := Box.new w3 40 [.string t.name, .bool t.enum, .slice Q1 t.fields.length q1, .slice Q2 t.gone.length q2, .slice Q3 t.items.length q3]
 have hrC3 := (RSl.fair RType.fair).below ((RSl.fair RType.fair).below hrC2 hb3) ((Below.here w3).alloc (Nat.le_refl _) (.cells [.string t.name, .bool t.enum, .slice Q1 t.fields.length q1, .slice Q2 t.gone.length q2, .slice Q3 t.items.length q3].toArray 40))
 have hrT3 := RType.fair.below (RType.fair.below hrT hb3) ((Below.here w3).alloc (Nat.le_refl _) (.cells [.string t.name, .bool t.enum, .slice Q1 t.fields.length q1, .slice Q2 t.gone.length q2, .slice Q3 t.items.length q3].toArray 40))
 have hrU3 := RType.fair.below (RType.fair.below hru hb3) ((Below.here w3).alloc (Nat.le_refl _) (.cells [.string t.name, .bool t.enum, .slice Q1 t.fields.length q1, .slice Q2 t.gone.length q2, .slice Q3 t.items.length q3].toArray 40))
 clear z0 l0 v1 vC vT hrC2 hrT hru hb3 hw2 Ht
 go_upto_region 4 with fail
 generalize w3.heap.size = U at yU ⊢
 generalize (World.alloc w3 _) = W3 at hw3 y1 yC yT yU hrC3 hrT3 hrU3 ⊢
 obtain ⟨r, hr⟩ : ∃ r, r = fieldOf t id := ⟨_, rfl⟩
 have hfa := fieldOf_any (New w) _ t id W3 hrT3
 rw [← hr] at hfa
 obtain ⟨c0, c1, c2, c3, c4⟩ := yT.five
 have l0 := yT.lt
 go_wp2_with fail
 refine hfa.mono ?_
 rintro e w4 ⟨rfl, hb4⟩
 obtain ⟨f, hfe⟩ : ∃ f, f = r.getD .zero := ⟨_, rfl⟩
 obtain ⟨s2, hs2⟩ : ∃ s, s = r.isSome := ⟨_, rfl⟩
 have Hf := Lib.hid (And.intro hfe (And.intro hs2 hr))
 rw [← hfe, ← hs2]
 obtain ⟨fi, fn, ft, fk, fr⟩ := f
 simp only [fieldCells]
 have hw4 := (below_via hw3 hb4 hw3.size).alloc (below_via hw3 hb4 hw3.size).size (.cells [.int .i64 fi, .string fn, .string ft, .int .i64 fk, .int .i64 fr].toArray 44)
 have v1 := (y1.below hb4 y1.lt).alloc (.cells [.int .i64 fi, .string fn, .string ft, .int .i64 fk, .int .i64 fr].toArray 44)
 have vC := (yC.below hb4 yC.lt).alloc (.cells [.int .i64 fi, .string fn, .string ft, .int .i64 fk, .int .i64 fr].toArray 44)
 have vT := (yT.below hb4 yT.lt).alloc (.cells [.int .i64 fi, .string fn, .string ft, .int .i64 fk, .int .i64 fr].toArray 44)
 have vU := (yU.below hb4 yU.lt).alloc (.cells [.int .i64 fi, .string fn, .string ft, .int .i64 fk, .int .i64 fr].toArray 44)
 have vF := Box.new w4 44 [.int .i64 fi, .string fn, .string ft, .int .i64 fk, .int .i64 fr]
 have hrC4 := (RSl.fair RType.fair).below ((RSl.fair RType.fair).below hrC3 hb4) ((Below.here w4).alloc (Nat.le_refl _) (.cells [.int .i64 fi, .string fn, .string ft, .int .i64 fk, .int .i64 fr].toArray 44))
 have hrT4 := RType.fair.below (RType.fair.below hrT3 hb4) ((Below.here w4).alloc (Nat.le_refl _) (.cells [.int .i64 fi, .string fn, .string ft, .int .i64 fk, .int .i64 fr].toArray 44))
 have hrU4 := RType.fair.below (RType.fair.below hrU3 hb4) ((Below.here w4).alloc (Nat.le_refl _) (.cells [.int .i64 fi, .string fn, .string ft, .int .i64 fk, .int .i64 fr].toArray 44))
 clear c0 c1 c2 c3 c4 l0 y1 yC yT yU hrC3 hrT3 hrU3 hfa hb4 hw3 hfe hs2 hr
 go_upto_region 5 with fail
 generalize w4.heap.size = F at vF ⊢
 generalize (World.alloc w4 _) = W4 at hw4 v1 vC vT vU vF hrC4 hrT4 hrU4 ⊢
 have hfb := fieldIn_any (Old w) _ t id W4 hrU4
 rw [← Hf.out.2.2] at hfb
 obtain ⟨c0, c1, c2, c3, c4⟩ := vU.five
 have l0 := vU.lt
 go_wp2_with fail
 refine hfb.mono ?_
 rintro e w5 ⟨rfl, hb5⟩
 rw [← Hf.out.1, ← Hf.out.2.1]
 simp only [fieldCells]
 have hw5 := (below_via hw4 hb5 hw4.size).alloc (below_via hw4 hb5 hw4.size).size (.cells [.int .i64 fi, .string fn, .string ft, .int .i64 fk, .int .i64 fr].toArray 44)
 have y1 := (v1.below hb5 v1.lt).alloc (.cells [.int .i64 fi, .string fn, .string ft, .int .i64 fk, .int .i64 fr].toArray 44)
 have yC := (vC.below hb5 vC.lt).alloc (.cells [.int .i64 fi, .string fn, .string ft, .int .i64 fk, .int .i64 fr].toArray 44)
 have yT := (vT.below hb5 vT.lt).alloc (.cells [.int .i64 fi, .string fn, .string ft, .int .i64 fk, .int .i64 fr].toArray 44)
 have yU := (vU.below hb5 vU.lt).alloc (.cells [.int .i64 fi, .string fn, .string ft, .int .i64 fk, .int .i64 fr].toArray 44)
 have yF := (vF.below hb5 vF.lt).alloc (.cells [.int .i64 fi, .string fn, .string ft, .int .i64 fk, .int .i64 fr].toArray 44)
 have yG := Box.new w5 44 [.int .i64 fi, .string fn, .string ft, .int .i64 fk, .int .i64 fr]
 have hrC5 := (RSl.fair RType.fair).below ((RSl.fair RType.fair).below hrC4 hb5) ((Below.here w5).alloc (Nat.le_refl _) (.cells [.int .i64 fi, .string fn, .string ft, .int .i64 fk, .int .i64 fr].toArray 44))
 have hrT5 := RType.fair.below (RType.fair.below hrT4 hb5) ((Below.here w5).alloc (Nat.le_refl _) (.cells [.int .i64 fi, .string fn, .string ft, .int .i64 fk, .int .i64 fr].toArray 44))
 have hrU5 := RType.fair.below (RType.fair.below hrU4 hb5) ((Below.here w5).alloc (Nat.le_refl _) (.cells [.int .i64 fi, .string fn, .string ft, .int .i64 fk, .int .i64 fr].toArray 44))
 clear c0 c1 c2 c3 c4 l0 v1 vC vT vU vF hrC4 hrT4 hrU4 hfb hb5 hw4 Hf
 go_upto_region 6 with fail
 generalize w5.heap.size = G at yG ⊢
 generalize (World.alloc w5 _) = W5 at hw5 y1 yC yT yU yF yG hrC5 hrT5 hrU5 ⊢
 have H5 : Hid (∀ W', RowKit.Below W5.heap.size W5 W' → (Box W' w.heap.size 24 [.slice A b.length cap] ∧ Box W' C 24 [.slice A' b.length c'] ∧ Box W' T 40 [.string t.name, .bool t.enum, .slice P1 t.fields.length p1, .slice P2 t.gone.length p2, .slice P3 t.items.length p3] ∧ Box W' U 40 [.string t.name, .bool t.enum, .slice Q1 t.fields.length q1, .slice Q2 t.gone.length q2, .slice Q3 t.items.length q3] ∧ Box W' F 44 [.int .i64 fi, .string fn, .string ft, .int .i64 fk, .int .i64 fr] ∧ Box W' G 44 [.int .i64 fi, .string fn, .string ft, .int .i64 fk, .int .i64 fr] ∧ RSl 5 96 RType (New w) W' [.slice A' b.length c'] b ∧ RType (New w) W' [.string t.name, .bool t.enum, .slice P1 t.fields.length p1, .slice P2 t.gone.length p2, .slice P3 t.items.length p3] t ∧ RType (Old w) W' [.string t.name, .bool t.enum, .slice Q1 t.fields.length q1, .slice Q2 t.gone.length q2, .slice Q3 t.items.length q3] t ∧ RowKit.Below w.heap.size w W')) := fun W' h => ⟨y1.below h y1.lt, yC.below h yC.lt, yT.below h yT.lt, yU.below h yU.lt, yF.below h yF.lt, yG.below h yG.lt, (RSl.fair RType.fair).below hrC5 h, RType.fair.below hrT5 h, RType.fair.below hrU5 h, below_via hw5 h hw5.size⟩
 have HSK : Hid (∀ W', RowKit.Below W5.heap.size W5 W' → (World.cell? W' ⟨w.heap.size, 0, none⟩ = some (.slice A b.length cap) ∧ World.cell? W' ⟨C, 0, none⟩ = some (.slice A' b.length c') ∧ (World.cell? W' ⟨T, 0, none⟩ = some (.string t.name) ∧ World.cell? W' ⟨T, 1, none⟩ = some (.bool t.enum) ∧ World.cell? W' ⟨T, 2, none⟩ = some (.slice P1 t.fields.length p1) ∧ World.cell? W' ⟨T, 3, none⟩ = some (.slice P2 t.gone.length p2) ∧ World.cell? W' ⟨T, 4, none⟩ = some (.slice P3 t.items.length p3)) ∧ (World.cell? W' ⟨U, 0, none⟩ = some (.string t.name) ∧ World.cell? W' ⟨U, 1, none⟩ = some (.bool t.enum) ∧ World.cell? W' ⟨U, 2, none⟩ = some (.slice Q1 t.fields.length q1) ∧ World.cell? W' ⟨U, 3, none⟩ = some (.slice Q2 t.gone.length q2) ∧ World.cell? W' ⟨U, 4, none⟩ = some (.slice Q3 t.items.length q3)) ∧ (World.cell? W' ⟨F, 0, none⟩ = some (.int .i64 fi) ∧ World.cell? W' ⟨F, 1, none⟩ = some (.string fn) ∧ World.cell? W' ⟨F, 2, none⟩ = some (.string ft) ∧ World.cell? W' ⟨F, 3, none⟩ = some (.int .i64 fk) ∧ World.cell? W' ⟨F, 4, none⟩ = some (.int .i64 fr)) ∧ (World.cell? W' ⟨G, 0, none⟩ = some (.int .i64 fi) ∧ World.cell? W' ⟨G, 1, none⟩ = some (.string fn) ∧ World.cell? W' ⟨G, 2, none⟩ = some (.string ft) ∧ World.cell? W' ⟨G, 3, none⟩ = some (.int .i64 fk) ∧ World.cell? W' ⟨G, 4, none⟩ = some (.int .i64 fr)))) := fun W' h => by
  obtain ⟨h1, h2, h3, h4, h5, h6, -⟩ := H5.out W' h
  exact ⟨h1.cell 0, h2.cell 0, h3.five, h4.five, h5.five, h6.five⟩
 have heq := fun W => run_eql_fieldR ⟨fi, fn, ft, fk, fr⟩ W
 dsimp only at heq
 have Hls : Hid (∀ W, RowKit.Below W5.heap.size W5 W → Calls Tryz.prog 28 #[.agg #[.slice A b.length cap], .string name] W (Ret W (.int .i64 (leastF b 4 name)))) := fun W h => leastIn_any (Old w) _ b name W ((RSl.fair RType.fair).below HB.out (H5.out W h).2.2.2.2.2.2.2.2.2) (fun t ht => ⟨(HBo.out t ht).1, fun f hf => ((HBo.out t ht).2.1 f hf).2⟩) HN.out
 have Hlb : Hid (∀ W, RowKit.Below W5.heap.size W5 W → Calls Tryz.prog 27 #[.agg #[.slice A' b.length c'], .string name] W (Ret W (.int .i64 (leastF b 4 name)))) := fun W h => leastOf4_any (New w) _ b name W (H5.out W h).2.2.2.2.2.2.1
 have Hga : Hid (∀ W, RowKit.Below W5.heap.size W5 W → Calls Tryz.prog 10 #[.agg #[.slice A' b.length c']] W (Ret W (.int .i64 (goodF b)))) := fun W h => good_any (New w) _ b W (H5.out W h).2.2.2.2.2.2.1 (HWd.out.1.below (H5.out W h).2.2.2.2.2.2.2.2.2) HBo.out
 have Hgb : Hid (∀ W, RowKit.Below W5.heap.size W5 W → Calls Tryz.prog 21 #[.agg #[.slice A b.length cap]] W (Ret W (.int .i64 (goodF b)))) := fun W h => goodR_any (Old w) _ b W ((RSl.fair RType.fair).below HB.out (H5.out W h).2.2.2.2.2.2.2.2.2) (HWd.out.2.2.2.below (H5.out W h).2.2.2.2.2.2.2.2.2) HBo.out HSm.out
 have Hma : Hid (∀ W, RowKit.Below W5.heap.size W5 W → Calls Tryz.prog 23 #[.agg [.string t.name, .bool t.enum, .slice P1 t.fields.length p1, .slice P2 t.gone.length p2, .slice P3 t.items.length p3].toArray, .int .i64 n] W (Ret W (.bool (meansF t n)))) := fun W h => means_any (New w) _ t n W (H5.out W h).2.2.2.2.2.2.2.1
 have Hmb : Hid (∀ W, RowKit.Below W5.heap.size W5 W → Calls Tryz.prog 24 #[.agg [.string t.name, .bool t.enum, .slice Q1 t.fields.length q1, .slice Q2 t.gone.length q2, .slice Q3 t.items.length q3].toArray, .int .i64 n] W (Ret W (.bool (meansF t n)))) := fun W h => itemIn_any (Old w) _ t n W (H5.out W h).2.2.2.2.2.2.2.2.1
 have Hna : Hid (∀ W, RowKit.Below W5.heap.size W5 W → Calls Tryz.prog 25 #[.string name] W (Ret W (.bool (namedF name)))) := fun W h => (named_any name W HN.out (HWd.out.1.below (H5.out W h).2.2.2.2.2.2.2.2.2)).mono fun e w' hp => ⟨hp.1, by rw [hp.2]; exact Below.here _⟩
 have Hnb : Hid (∀ W, RowKit.Below W5.heap.size W5 W → Calls Tryz.prog 26 #[.string name] W (Ret W (.bool (namedF name)))) := fun W h => isName_any name W HN.out (HWd.out.2.2.2.below (H5.out W h).2.2.2.2.2.2.2.2.2)
 obtain ⟨gd, hgd⟩ : ∃ g, g = goodF b := ⟨_, rfl⟩
 obtain ⟨ls, hls⟩ : ∃ l : Int, l = leastF b 4 name := ⟨_, rfl⟩
 obtain ⟨mn, hmn⟩ : ∃ m, m = meansF t n := ⟨_, rfl⟩
 obtain ⟨nm, hnm⟩ : ∃ m, m = namedF name := ⟨_, rfl⟩
 rw [← hgd] at Hga Hgb
 rw [← hls] at Hls Hlb
 rw [← hmn] at Hma Hmb
 rw [← hnm] at Hna Hnb
 have hB8 := below_drew (Below.here W5)
 have hS := HSK.out _ hB8
 clear y1 yC yT yU yF yG hrC5 hrT5 hrU5 hw5 hgd hls hmn hnm
 refine late_start (fun W' => World.cell? W' ⟨w.heap.size, 0, none⟩ = some (.slice A b.length cap) ∧ World.cell? W' ⟨C, 0, none⟩ = some (.slice A' b.length c') ∧ (World.cell? W' ⟨T, 0, none⟩ = some (.string t.name) ∧ World.cell? W' ⟨T, 1, none⟩ = some (.bool t.enum) ∧ World.cell? W' ⟨T, 2, none⟩ = some (.slice P1 t.fields.length p1) ∧ World.cell? W' ⟨T, 3, none⟩ = some (.slice P2 t.gone.length p2) ∧ World.cell? W' ⟨T, 4, none⟩ = some (.slice P3 t.items.length p3)) ∧ (World.cell? W' ⟨U, 0, none⟩ = some (.string t.name) ∧ World.cell? W' ⟨U, 1, none⟩ = some (.bool t.enum) ∧ World.cell? W' ⟨U, 2, none⟩ = some (.slice Q1 t.fields.length q1) ∧ World.cell? W' ⟨U, 3, none⟩ = some (.slice Q2 t.gone.length q2) ∧ World.cell? W' ⟨U, 4, none⟩ = some (.slice Q3 t.items.length q3)) ∧ (World.cell? W' ⟨F, 0, none⟩ = some (.int .i64 fi) ∧ World.cell? W' ⟨F, 1, none⟩ = some (.string fn) ∧ World.cell? W' ⟨F, 2, none⟩ = some (.string ft) ∧ World.cell? W' ⟨F, 3, none⟩ = some (.int .i64 fk) ∧ World.cell? W' ⟨F, 4, none⟩ = some (.int .i64 fr)) ∧ (World.cell? W' ⟨G, 0, none⟩ = some (.int .i64 fi) ∧ World.cell? W' ⟨G, 1, none⟩ = some (.string fn) ∧ World.cell? W' ⟨G, 2, none⟩ = some (.string ft) ∧ World.cell? W' ⟨G, 3, none⟩ = some (.int .i64 fk) ∧ World.cell? W' ⟨G, 4, none⟩ = some (.int .i64 fr))) 58 (by kernel_rfl) ?_
 generalize W5.drew = Wb at hB8 hS ⊢
 refine tkL 0 hS ?_
 try simp only [pu]
 refine tkL 2 hS ?_
 try simp only [pu]
 refine late_one (i := 1) rfl (by kernel_rfl) (fun K hK => ?_)
 go_simp
 refine ((Hga.out _ hB8)).mono ?_
 rintro e wn ⟨rfl, hbn⟩
 replace hB8 := below_via hB8 hbn hB8.size
 clear hS hbn
 have hS := HSK.out _ hB8
 refine hK.out _ _ (fun _ => hS) ?_
 clear hK K
 try simp only [pu]
 refine late_one (i := 3) rfl (by kernel_rfl) (fun K hK => ?_)
 go_simp
 refine ((Hgb.out _ hB8)).mono ?_
 rintro e wn ⟨rfl, hbn⟩
 replace hB8 := below_via hB8 hbn hB8.size
 clear hS hbn
 have hS := HSK.out _ hB8
 refine hK.out _ _ (fun _ => hS) ?_
 clear hK K
 try simp only [pu]
 refine tkL 4 hS ?_
 try simp only [pu]
 refine tkL 5 hS ?_
 try simp only [pu]
 refine tkL 6 hS ?_
 try simp only [pu]
 refine tkL 7 hS ?_
 try simp only [pu]
 refine late_one (i := 8) rfl (by kernel_rfl) (fun K hK => ?_)
 go_simp
 refine ((sameType_anyR (New w) (Old w) _ _ t _ (H5.out _ hB8).2.2.2.2.2.2.2.1 (H5.out _ hB8).2.2.2.2.2.2.2.2.1)).mono ?_
 rintro e wn ⟨rfl, hbn⟩
 replace hB8 := below_via hB8 hbn hB8.size
 clear hS hbn
 have hS := HSK.out _ hB8
 refine hK.out _ _ (fun _ => hS) ?_
 clear hK K
 try simp only [pu]
 refine tkL 9 hS ?_
 try simp only [pu]
 refine tkL 10 hS ?_
 try simp only [pu]
 refine tkL 11 hS ?_
 try simp only [pu]
 refine tkL 12 hS ?_
 try simp only [pu]
 refine tkL 13 hS ?_
 try simp only [pu]
 refine tkL 14 hS ?_
 try simp only [pu]
 refine tkL 15 hS ?_
 try simp only [pu]
 as_aux_lemma =>
  refine tkL 16 hS ?_
  try simp only [pu]
  refine tkL 17 hS ?_
  try simp only [pu]
  refine late_one (i := 18) rfl (by kernel_rfl) (fun K hK => ?_)
  go_simp
  refine hK.out _ _ (fun _ => hS) ?_
  clear hK K
  try simp only [pu]
  refine tkL 19 hS ?_
  try simp only [pu]
  refine tkL 20 hS ?_
  try simp only [pu]
  refine tkL 21 hS ?_
  try simp only [pu]
  refine tkL 22 hS ?_
  try simp only [pu]
  refine tkL 23 hS ?_
  try simp only [pu]
  refine tkL 24 hS ?_
  try simp only [pu]
  refine tkL 25 hS ?_
  try simp only [pu]
  refine tkL 26 hS ?_
  try simp only [pu]
  refine tkL 27 hS ?_
  try simp only [pu]
  refine tkL 29 hS ?_
  try simp only [pu]
  refine tkL 30 hS ?_
  try simp only [pu]
  refine late_one (i := 28) rfl (by kernel_rfl) (fun K hK => ?_)
  go_simp
  refine ((Hma.out _ hB8)).mono ?_
  rintro e wn ⟨rfl, hbn⟩
  replace hB8 := below_via hB8 hbn hB8.size
  clear hS hbn
  have hS := HSK.out _ hB8
  refine hK.out _ _ (fun _ => hS) ?_
  clear hK K
  try simp only [pu]
  refine late_one (i := 31) rfl (by kernel_rfl) (fun K hK => ?_)
  go_simp
  refine ((Hmb.out _ hB8)).mono ?_
  rintro e wn ⟨rfl, hbn⟩
  replace hB8 := below_via hB8 hbn hB8.size
  clear hS hbn
  have hS := HSK.out _ hB8
  refine hK.out _ _ (fun _ => hS) ?_
  clear hK K
  try simp only [pu]
  refine tkL 32 hS ?_
  try simp only [pu]
  as_aux_lemma =>
   refine tkL 33 hS ?_
   try simp only [pu]
   refine tkL 34 hS ?_
   try simp only [pu]
   refine tkL 35 hS ?_
   try simp only [pu]
   refine tkL 37 hS ?_
   try simp only [pu]
   refine late_one (i := 36) rfl (by kernel_rfl) (fun K hK => ?_)
   go_simp
   refine ((Hna.out _ hB8)).mono ?_
   rintro e wn ⟨rfl, hbn⟩
   replace hB8 := below_via hB8 hbn hB8.size
   clear hS hbn
   have hS := HSK.out _ hB8
   refine hK.out _ _ (fun _ => hS) ?_
   clear hK K
   try simp only [pu]
   refine late_one (i := 38) rfl (by kernel_rfl) (fun K hK => ?_)
   go_simp
   refine ((Hnb.out _ hB8)).mono ?_
   rintro e wn ⟨rfl, hbn⟩
   replace hB8 := below_via hB8 hbn hB8.size
   clear hS hbn
   have hS := HSK.out _ hB8
   refine hK.out _ _ (fun _ => hS) ?_
   clear hK K
   try simp only [pu]
   refine tkL 39 hS ?_
   try simp only [pu]
   refine tkL 40 hS ?_
   try simp only [pu]
   refine tkL 41 hS ?_
   try simp only [pu]
   refine tkL 42 hS ?_
   try simp only [pu]
   refine tkL 43 hS ?_
   try simp only [pu]
   refine tkL 45 hS ?_
   try simp only [pu]
   refine tkL 46 hS ?_
   try simp only [pu]
   refine late_one (i := 44) rfl (by kernel_rfl) (fun K hK => ?_)
   go_simp
   refine ((Hlb.out _ hB8)).mono ?_
   rintro e wn ⟨rfl, hbn⟩
   replace hB8 := below_via hB8 hbn hB8.size
   clear hS hbn
   have hS := HSK.out _ hB8
   refine hK.out _ _ (fun _ => hS) ?_
   clear hK K
   try simp only [pu]
   refine late_one (i := 47) rfl (by kernel_rfl) (fun K hK => ?_)
   go_simp
   refine ((Hls.out _ hB8)).mono ?_
   rintro e wn ⟨rfl, hbn⟩
   replace hB8 := below_via hB8 hbn hB8.size
   clear hS hbn
   have hS := HSK.out _ hB8
   refine hK.out _ _ (fun _ => hS) ?_
   clear hK K
   try simp only [pu]
   refine tkL 48 hS ?_
   try simp only [pu]
   as_aux_lemma =>
    refine tkL 49 hS ?_
    try simp only [pu]
    refine tkL 50 hS ?_
    try simp only [pu]
    refine tkL 51 hS ?_
    try simp only [pu]
    refine tkL 52 hS ?_
    try simp only [pu]
    refine late_one (i := 53) rfl (by kernel_rfl) (fun K hK => ?_)
    go_simp
    refine ((sameBook_anyR (New w) (Old w) _ _ b _ (H5.out _ hB8).2.2.2.2.2.2.1 ((RSl.fair RType.fair).below HB.out (H5.out _ hB8).2.2.2.2.2.2.2.2.2))).mono ?_
    rintro e wn ⟨rfl, hbn⟩
    replace hB8 := below_via hB8 hbn hB8.size
    clear hS hbn
    have hS := HSK.out _ hB8
    refine hK.out _ _ (fun _ => hS) ?_
    clear hK K
    try simp only [pu]
    refine tkL 54 hS ?_
    try simp only [pu]
    refine tkL 55 hS ?_
    try simp only [pu]
    refine late_one (i := 56) rfl (by kernel_rfl) (fun K hK => ?_)
    go_simp
    refine ((booksL_any _ (HWd.out.1.below (H5.out _ hB8).2.2.2.2.2.2.2.2.2) (HWd.out.2.1.below (H5.out _ hB8).2.2.2.2.2.2.2.2.2) (HWd.out.2.2.1.below (H5.out _ hB8).2.2.2.2.2.2.2.2.2))).mono ?_
    rintro e wn ⟨rfl, hbn⟩
    replace hB8 := below_via hB8 hbn hB8.size
    clear hS hbn
    have hS := HSK.out _ hB8
    refine hK.out _ _ (fun _ => hS) ?_
    clear hK K
    try simp only [pu]
    refine tkL 57 hS ?_
    try simp only [pu]
    refine late_one (i := 58) rfl (by kernel_rfl) (fun K hK => ?_)
    go_simp
    refine hK.out _ _ (fun h => absurd h (by decide)) ?_
    clear hK K
    try simp only [pu]
    refine late_done (by kernel_rfl) ?_ _
    have hwF := (H5.out _ hB8).2.2.2.2.2.2.2.2.2
    clear hS HSK
    go_wp2_with fail
    go_ret
    exact ⟨rfl, hwF⟩
end Go.Proofs.YtfobdbhmfohfnaaGreatDoor
