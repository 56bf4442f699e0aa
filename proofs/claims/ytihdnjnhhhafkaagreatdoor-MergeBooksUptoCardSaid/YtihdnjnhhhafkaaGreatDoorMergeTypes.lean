/- The walk of merge.types. -/
import Derived.Test.YtihdnjnhhhafkaaGreatDoorMergeBuilt
import Derived.Deep.CutBlock
set_option linter.all false
set_option maxRecDepth 100000
set_option maxHeartbeats 8000000
namespace Go.Proofs.YtihdnjnhhhafkaaGreatDoor
open Go.RowKit
theorem drew_size (w : World) : w.drew.heap.size = w.heap.size := rfl
theorem newState {B : Nat} {a w : World} (_ : Below B a w) : Box (w.alloc (.cells #[.bool false, .bool false, .int .i64 0, .string ⟨#[]⟩, .string ⟨#[]⟩, .int .i64 0, .int .i64 0, .string ⟨#[]⟩] 45)) w.heap.size 45 [.bool false, .bool false, .int .i64 0, .string ⟨#[]⟩, .string ⟨#[]⟩, .int .i64 0, .int .i64 0, .string ⟨#[]⟩] := Box.new _ _ _
def TypesPost (w : World) (T : TypeD) (L : List FlawD) (e : Ending) (w' : World) : Prop :=
 ∃ cs vl, e = .returned (.tuple #[.agg cs.toArray, vl]) ∧ RType (New w) w' cs T ∧ RSl 3 32 RFlaw (New w) w' [vl] L ∧ Below w.heap.size w w'
theorem types_results {W : World} {a : Act} {g : Nat} {c0 c1 c2 c3 c4 vl : Value} (hb : Box W g 38 [c0, c1, c2, c3, c4]) (h4 : a.tmps.getD 8 undef = .pointer (some ⟨g, 0, none⟩)) (h5 : a.tmps.getD 9 undef = vl) :
  (results Tryz.f15 a.tmps).run Tryz.prog W = .ok (.tuple #[.agg #[c0, c1, c2, c3, c4], vl]) W := by
 obtain ⟨e0, e1, e2, e3, e4⟩ := hb.five
 simp only [Array.getD_eq_getD_getElem?] at h4 h5
 simp [results, Tryz.results15, go_sem, h4, h5, e0, e1, e2, e3, e4]
theorem types_any (S : Nat → Prop) (va vb vc : Value) (was a b : BookD) (name : ByteArray) (w : World) (h1 : RSl 5 96 RType S w [va] was) (h2 : RSl 5 96 RType S w [vb] a) (h3 : RSl 5 96 RType S w [vc] b)
  (hx : (typeOf was name).items.length ≤ 100) (hy : (typeOf a name).items.length ≤ 100) (hz : (typeOf b name).items.length ≤ 100) :
  Calls Tryz.prog 15 #[.agg #[va], .agg #[vb], .agg #[vc], .string name] w (TypesPost w (typesT (typeOf was name) (typeOf a name) (typeOf b name) name) (typesL (typeOf was name) (typeOf a name) (typeOf b name) name)) := by
 obtain ⟨x, hxe⟩ : ∃ x, x = typeOf was name := ⟨_, rfl⟩
 obtain ⟨y, hye⟩ : ∃ y, y = typeOf a name := ⟨_, rfl⟩
 obtain ⟨z, hze⟩ : ∃ z, z = typeOf b name := ⟨_, rfl⟩
 obtain ⟨fr, hfr⟩ : ∃ r, r = typesT x y z name := ⟨_, rfl⟩
 obtain ⟨lr, hlr⟩ : ∃ r, r = typesL x y z name := ⟨_, rfl⟩
 rw [← hxe] at hx ⊢
 rw [← hye] at hy ⊢
 rw [← hze] at hz ⊢
 rw [← hfr, ← hlr]
 have Hxe := Lib.hid hxe
 have Hye := Lib.hid hye
 have Hze := Lib.hid hze
 have Hfr := Lib.hid hfr
 have Hlr := Lib.hid hlr
 clear hxe hye hze hfr hlr
 obtain ⟨A1, k1, rfl, hlc1, _⟩ := h1.form
 obtain ⟨A2, k2, rfl, hlc2, _⟩ := h2.form
 obtain ⟨A3, k3, rfl, hlc3, _⟩ := h3.form
 obtain ⟨x1, x2, x3, x4, x5⟩ := boxes4 w [.slice A1 was.length k1] [.slice A2 a.length k2] [.slice A3 b.length k3] [.string ⟨#[]⟩, .bool false, .slice none 0 0, .slice none 0 0, .slice none 0 0] 24 24 24 38
 have HA := Lib.hid ((RSl.fair RType.fair).old h1)
 have HB := Lib.hid ((RSl.fair RType.fair).old h2)
 have HC := Lib.hid ((RSl.fair RType.fair).old h3)
 have Hx := Lib.hid hx
 have Hy := Lib.hid hy
 have Hz := Lib.hid hz
 have c0 := x1.cell 0
 have hl0 := x1.lt
 simp only [List.getElem?_cons_zero] at c0
 clear h1 h2 h3 hx hy hz hlc1 hlc2 hlc3
 go_enter Tryz.func15, Tryz.ntmps15
 go_wp2_with fail
 refine (find_any (Old w) _ was name _ ((RSl.fair RType.fair).below HA.out x5)).mono ?_
 rintro e w1 ⟨cs1, rfl, hr1, hb1⟩
 have hr1' : RType (Old w) w1 cs1 (typeOf was name) := RType.fair.below hr1 hb1
 rw [← Hxe.out] at hr1'
 obtain ⟨P1, Pa, P2, Pb, P3, Pc, rfl, -, -, -⟩ := hr1'.parts
 have hw1 := below_via x5 hb1 x5.size
 have y1 := x2.below hb1 x2.lt
 have y2 := x3.below hb1 x3.lt
 have y3 := x4.below hb1 x4.lt
 have HX := Lib.hid hr1'
 have hl8' : w.heap.size + 1 + 1 + 1 < w1.heap.size := (x4.below hb1 x4.lt).lt
 clear hr1 hr1' x1 x2 x3 x4 c0 hl0 hb1
 have z0 := Box.new w1 38 [.string x.name, .bool x.enum, .slice P1 x.fields.length Pa, .slice P2 x.gone.length Pb, .slice P3 x.items.length Pc]
 have v1 := y1.alloc (.cells [.string x.name, .bool x.enum, .slice P1 x.fields.length Pa, .slice P2 x.gone.length Pb, .slice P3 x.items.length Pc].toArray 38)
 have v2 := y2.alloc (.cells [.string x.name, .bool x.enum, .slice P1 x.fields.length Pa, .slice P2 x.gone.length Pb, .slice P3 x.items.length Pc].toArray 38)
 have v3 := y3.alloc (.cells [.string x.name, .bool x.enum, .slice P1 x.fields.length Pa, .slice P2 x.gone.length Pb, .slice P3 x.items.length Pc].toArray 38)
 have hwa := hw1.alloc hw1.size (.cells [.string x.name, .bool x.enum, .slice P1 x.fields.length Pa, .slice P2 x.gone.length Pb, .slice P3 x.items.length Pc].toArray 38)
 have c0 := y1.cell 0
 have hl0 := y1.lt
 simp only [List.getElem?_cons_zero] at c0
 clear y1 y2 y3
 go_wp2_with fail
 refine (find_any (Old w) _ a name _ ((RSl.fair RType.fair).below HB.out hwa)).mono ?_
 rintro e w2 ⟨cs2, rfl, hr2, hb2⟩
 have hr2' : RType (Old w) w2 cs2 (typeOf a name) := RType.fair.below hr2 hb2
 rw [← Hye.out] at hr2'
 obtain ⟨Q1, Qa, Q2, Qb, Q3, Qc, rfl, -, -, -⟩ := hr2'.parts
 have hw2 := below_via hwa hb2 hwa.size
 have hwb := hw2.alloc hw2.size (.cells [.string y.name, .bool y.enum, .slice Q1 y.fields.length Qa, .slice Q2 y.gone.length Qb, .slice Q3 y.items.length Qc].toArray 38)
 have u2 := (v2.below hb2 v2.lt).alloc (.cells [.string y.name, .bool y.enum, .slice Q1 y.fields.length Qa, .slice Q2 y.gone.length Qb, .slice Q3 y.items.length Qc].toArray 38)
 have u3 := (v3.below hb2 v3.lt).alloc (.cells [.string y.name, .bool y.enum, .slice Q1 y.fields.length Qa, .slice Q2 y.gone.length Qb, .slice Q3 y.items.length Qc].toArray 38)
 have z1 := (z0.below hb2 z0.lt).alloc (.cells [.string y.name, .bool y.enum, .slice Q1 y.fields.length Qa, .slice Q2 y.gone.length Qb, .slice Q3 y.items.length Qc].toArray 38)
 have s1 := Box.new w2 38 [.string y.name, .bool y.enum, .slice Q1 y.fields.length Qa, .slice Q2 y.gone.length Qb, .slice Q3 y.items.length Qc]
 have HY := Lib.hid hr2'
 replace HX := Lib.hid (RType.fair.below (RType.fair.keep HX.out (Keep.alloc (Old w) w1 (.cells [.string x.name, .bool x.enum, .slice P1 x.fields.length Pa, .slice P2 x.gone.length Pb, .slice P3 x.items.length Pc].toArray 38))) hb2)
 clear c0 hl0
 have c0 := (v2.below hb2 v2.lt).cell 0
 have hl0 := (v2.below hb2 v2.lt).lt
 simp only [List.getElem?_cons_zero] at c0
 have hlx : w1.heap.size < w2.heap.size := (z0.below hb2 z0.lt).lt
 clear hr2 hr2' hb2 v1 v2 v3 z0
 go_wp2_with fail
 refine (find_any (Old w) _ b name _ ((RSl.fair RType.fair).below HC.out hwb)).mono ?_
 rintro e w3 ⟨cs3, rfl, hr3, hb3⟩
 have hr3' : RType (Old w) w3 cs3 (typeOf b name) := RType.fair.below hr3 hb3
 rw [← Hze.out] at hr3'
 obtain ⟨R1, Ra, R2, Rb, R3, Rc, rfl, -, -, -⟩ := hr3'.parts
 have hw3 := below_via hwb hb3 hwb.size
 have hwc := hw3.alloc hw3.size (.cells [.string z.name, .bool z.enum, .slice R1 z.fields.length Ra, .slice R2 z.gone.length Rb, .slice R3 z.items.length Rc].toArray 38)
 have t3 := (u3.below hb3 u3.lt).alloc (.cells [.string z.name, .bool z.enum, .slice R1 z.fields.length Ra, .slice R2 z.gone.length Rb, .slice R3 z.items.length Rc].toArray 38)
 have z2 := (z1.below hb3 z1.lt).alloc (.cells [.string z.name, .bool z.enum, .slice R1 z.fields.length Ra, .slice R2 z.gone.length Rb, .slice R3 z.items.length Rc].toArray 38)
 have s2 := (s1.alloc (.cells [.string y.name, .bool y.enum, .slice Q1 y.fields.length Qa, .slice Q2 y.gone.length Qb, .slice Q3 y.items.length Qc].toArray 38))
 have q2 := ((Box.new w2 38 [.string y.name, .bool y.enum, .slice Q1 y.fields.length Qa, .slice Q2 y.gone.length Qb, .slice Q3 y.items.length Qc]).below hb3 (Box.new w2 38 [.string y.name, .bool y.enum, .slice Q1 y.fields.length Qa, .slice Q2 y.gone.length Qb, .slice Q3 y.items.length Qc]).lt).alloc (.cells [.string z.name, .bool z.enum, .slice R1 z.fields.length Ra, .slice R2 z.gone.length Rb, .slice R3 z.items.length Rc].toArray 38)
 have r2 := Box.new w3 38 [.string z.name, .bool z.enum, .slice R1 z.fields.length Ra, .slice R2 z.gone.length Rb, .slice R3 z.items.length Rc]
 have HZ := Lib.hid hr3'
 replace HX := Lib.hid (RType.fair.below (RType.fair.keep HX.out (Keep.alloc (Old w) w2 (.cells [.string y.name, .bool y.enum, .slice Q1 y.fields.length Qa, .slice Q2 y.gone.length Qb, .slice Q3 y.items.length Qc].toArray 38))) hb3)
 replace HY := Lib.hid (RType.fair.below (RType.fair.keep HY.out (Keep.alloc (Old w) w2 (.cells [.string y.name, .bool y.enum, .slice Q1 y.fields.length Qa, .slice Q2 y.gone.length Qb, .slice Q3 y.items.length Qc].toArray 38))) hb3)
 have hly : w2.heap.size < w3.heap.size := ((Box.new w2 38 [.string y.name, .bool y.enum, .slice Q1 y.fields.length Qa, .slice Q2 y.gone.length Qb, .slice Q3 y.items.length Qc]).below hb3 (Box.new w2 38 [.string y.name, .bool y.enum, .slice Q1 y.fields.length Qa, .slice Q2 y.gone.length Qb, .slice Q3 y.items.length Qc]).lt).lt
 clear hr3 hr3' hb3 u2 u3 z1 s1 s2 c0 hl0
 have t3' := t3.alloc (.cells #[.string name, .bool false, .slice none 0 0, .slice none 0 0, .slice none 0 0] 38)
 have z2' := z2.alloc (.cells #[.string name, .bool false, .slice none 0 0, .slice none 0 0, .slice none 0 0] 38)
 have q2' := q2.alloc (.cells #[.string name, .bool false, .slice none 0 0, .slice none 0 0, .slice none 0 0] 38)
 have r2' := r2.alloc (.cells #[.string name, .bool false, .slice none 0 0, .slice none 0 0, .slice none 0 0] 38)
 have p2' := Box.new (w3.alloc (.cells [.string z.name, .bool z.enum, .slice R1 z.fields.length Ra, .slice R2 z.gone.length Rb, .slice R3 z.items.length Rc].toArray 38)) 38 [.string name, .bool false, .slice none 0 0, .slice none 0 0, .slice none 0 0]
 have hwd := hwc.alloc hwc.size (.cells #[.string name, .bool false, .slice none 0 0, .slice none 0 0, .slice none 0 0] 38)
 simp only [World.size_alloc] at p2'
 clear t3 z2 q2 r2 hwc hwa hwb hw2 hw1 x5
 go_wp2_with fail
 replace HX := Lib.hid (RType.fair.keep (RType.fair.keep HX.out (Keep.alloc (Old w) _ (.cells [.string z.name, .bool z.enum, .slice R1 z.fields.length Ra, .slice R2 z.gone.length Rb, .slice R3 z.items.length Rc].toArray 38))) (Keep.alloc (Old w) _ (.cells #[.string name, .bool false, .slice none 0 0, .slice none 0 0, .slice none 0 0] 38)))
 replace HY := Lib.hid (RType.fair.keep (RType.fair.keep HY.out (Keep.alloc (Old w) _ (.cells [.string z.name, .bool z.enum, .slice R1 z.fields.length Ra, .slice R2 z.gone.length Rb, .slice R3 z.items.length Rc].toArray 38))) (Keep.alloc (Old w) _ (.cells #[.string name, .bool false, .slice none 0 0, .slice none 0 0, .slice none 0 0] 38)))
 replace HZ := Lib.hid (RType.fair.keep (RType.fair.keep HZ.out (Keep.alloc (Old w) _ (.cells [.string z.name, .bool z.enum, .slice R1 z.fields.length Ra, .slice R2 z.gone.length Rb, .slice R3 z.items.length Rc].toArray 38))) (Keep.alloc (Old w) _ (.cells #[.string name, .bool false, .slice none 0 0, .slice none 0 0, .slice none 0 0] 38)))
 have hlt1 : w3.heap.size + 1 < ((w3.alloc (.cells [.string z.name, .bool z.enum, .slice R1 z.fields.length Ra, .slice R2 z.gone.length Rb, .slice R3 z.items.length Rc].toArray 38)).alloc (.cells #[.string name, .bool false, .slice none 0 0, .slice none 0 0, .slice none 0 0] 38)).heap.size := p2'.lt
 have hbs : ((w3.alloc (.cells [.string z.name, .bool z.enum, .slice R1 z.fields.length Ra, .slice R2 z.gone.length Rb, .slice R3 z.items.length Rc].toArray 38)).alloc (.cells #[.string name, .bool false, .slice none 0 0, .slice none 0 0, .slice none 0 0] 38)).heap.size = w3.heap.size + 1 + 1 := by simp
 have hlw : w.heap.size ≤ w3.heap.size := hw3.size
 have hl8 : w.heap.size + 1 + 1 + 1 < w1.heap.size := hl8'
 generalize hWd : (w3.alloc (.cells _ 38)).alloc (.cells _ 38) = Wd at *
 clear hWd hw3
 generalize w1.heap.size = X at *
 generalize w2.heap.size = Y at *
 generalize w3.heap.size = Z at *
 generalize hg8 : w.heap.size + 1 + 1 + 1 = g8 at *
 have hw8 : w.heap.size ≤ g8 := by omega
 clear hg8
 have hbz : Z + 1 + 1 ≤ Wd.heap.size := by omega
 clear hbs
 have TX := z2'
 have TY := q2'
 have TZ := r2'
 have T8 := t3'
 have TT := p2'
 have hALL : ∀ W', RowKit.Below (Z + 1) Wd W' → RType (Old w) W' [.string x.name, .bool x.enum, .slice P1 x.fields.length Pa, .slice P2 x.gone.length Pb, .slice P3 x.items.length Pc] x ∧ RType (Old w) W' [.string y.name, .bool y.enum, .slice Q1 y.fields.length Qa, .slice Q2 y.gone.length Qb, .slice Q3 y.items.length Qc] y ∧ RType (Old w) W' [.string z.name, .bool z.enum, .slice R1 z.fields.length Ra, .slice R2 z.gone.length Rb, .slice R3 z.items.length Rc] z ∧ Box W' X 38 [.string x.name, .bool x.enum, .slice P1 x.fields.length Pa, .slice P2 x.gone.length Pb, .slice P3 x.items.length Pc] ∧ Box W' Y 38 [.string y.name, .bool y.enum, .slice Q1 y.fields.length Qa, .slice Q2 y.gone.length Qb, .slice Q3 y.items.length Qc] ∧ Box W' Z 38 [.string z.name, .bool z.enum, .slice R1 z.fields.length Ra, .slice R2 z.gone.length Rb, .slice R3 z.items.length Rc] ∧ Box W' g8 38 [.string ⟨#[]⟩, .bool false, .slice none 0 0, .slice none 0 0, .slice none 0 0] := by
  intro W' h
  have hk : Keep (Old w) Wd W' := ⟨h.size, fun g hs _ => h.block g (by have : g < w.heap.size := hs; omega)⟩
  exact ⟨RType.fair.keep HX.out hk, RType.fair.keep HY.out hk, RType.fair.keep HZ.out hk, TX.below h (by omega), TY.below h (by omega), TZ.below h (by omega), T8.below h (by omega)⟩
 have HALL := Lib.hid hALL
 clear z2' q2' r2' t3' p2' TX TY TZ T8 hALL HX HY HZ HA HB HC
 go_loopw [17, 18] (fun vb i wr => ∃ (k : Nat) (F : List FieldD) (G : List Int) (B : List FlawD) (vf vg : Value), i = .int .i64 ((k : Int) + 1) ∧ k ≤ 30 ∧ Hid (F = (idsL.take k).flatMap (fieldsAt x y z)) ∧ Hid (G = (idsL.take k).flatMap (goneAt x y z)) ∧ Hid (B = (idsL.take k).flatMap (badAt x y z name)) ∧
   Hid (F.length ≤ k ∧ G.length ≤ k ∧ B.length ≤ k) ∧ TB (Z + 1 + 1) wr vf vg (.slice none 0 0) vb F G [] B ∧ Box wr (Z + 1) 38 [.string name, .bool false, vf, vg, .slice none 0 0] ∧ RowKit.Below (Z + 1) Wd wr) (fun _ i _ => (31 - intOf i).toNat)
 case atStart => exact ⟨0, [], [], [], _, _, rfl, by omega, rfl, rfl, rfl, (show _ ∧ _ by simp), TB.nil _ _, TT, Below.refl _ _⟩
 case round =>
  obtain ⟨k, F, G, B, vf, vg, rfl, hk, hF, hG0, hBd, hlen, hT, hbt, hb⟩ := hrel
  clear TT
  have hlX : X < wr.heap.size := by have := hb.size; go_light; omega
  by_cases hlt : k < 30
  ·have e1 : decide ((k : Int) + 1 ≤ 30) = true := by simp; omega
   go_upto_region 9 with fail
   obtain ⟨id, hid⟩ : ∃ id, id = (k : Int) + 1 := ⟨_, rfl⟩
   have hvs : Z + 1 ≤ wr.heap.size := by have := hb.size; go_light; omega
   have HV : ∀ W', RowKit.Below wr.heap.size wr W' → RowKit.Below (Z + 1) Wd W' := fun W' h => hb.trans (h.mono hvs)
   have hSK : ∀ W', RowKit.Below wr.heap.size wr W' → (fun W' => (W'.cell? ⟨X, 0, none⟩ = some (.string x.name) ∧ W'.cell? ⟨X, 1, none⟩ = some (.bool x.enum) ∧ W'.cell? ⟨X, 2, none⟩ = some (.slice P1 x.fields.length Pa) ∧ W'.cell? ⟨X, 3, none⟩ = some (.slice P2 x.gone.length Pb) ∧ W'.cell? ⟨X, 4, none⟩ = some (.slice P3 x.items.length Pc)) ∧ (W'.cell? ⟨Y, 0, none⟩ = some (.string y.name) ∧ W'.cell? ⟨Y, 1, none⟩ = some (.bool y.enum) ∧ W'.cell? ⟨Y, 2, none⟩ = some (.slice Q1 y.fields.length Qa) ∧ W'.cell? ⟨Y, 3, none⟩ = some (.slice Q2 y.gone.length Qb) ∧ W'.cell? ⟨Y, 4, none⟩ = some (.slice Q3 y.items.length Qc)) ∧ (W'.cell? ⟨Z, 0, none⟩ = some (.string z.name) ∧ W'.cell? ⟨Z, 1, none⟩ = some (.bool z.enum) ∧ W'.cell? ⟨Z, 2, none⟩ = some (.slice R1 z.fields.length Ra) ∧ W'.cell? ⟨Z, 3, none⟩ = some (.slice R2 z.gone.length Rb) ∧ W'.cell? ⟨Z, 4, none⟩ = some (.slice R3 z.items.length Rc))) W' := fun W' h => ⟨(HALL.out W' (HV W' h)).2.2.2.1.five, (HALL.out W' (HV W' h)).2.2.2.2.1.five, (HALL.out W' (HV W' h)).2.2.2.2.2.1.five⟩
   have HSK := Lib.hid hSK
   have Hf1 := Lib.hid (fun W' (h : RowKit.Below wr.heap.size wr W') => field_any (Old w) _ x ((k : Int) + 1) W' (HALL.out W' (HV W' h)).1)
   have Hf2 := Lib.hid (fun W' (h : RowKit.Below wr.heap.size wr W') => field_any (Old w) _ y ((k : Int) + 1) W' (HALL.out W' (HV W' h)).2.1)
   have Hf3 := Lib.hid (fun W' (h : RowKit.Below wr.heap.size wr W') => field_any (Old w) _ z ((k : Int) + 1) W' (HALL.out W' (HV W' h)).2.2.1)
   have hf4 := fun W' (h : RowKit.Below wr.heap.size wr W') => three_any (fieldS x ((k : Int) + 1)) (fieldS y ((k : Int) + 1)) (fieldS z ((k : Int) + 1)) W'
   obtain ⟨r1, hr1⟩ : ∃ r, r = fT x y z ((k : Int) + 1) := ⟨_, rfl⟩
   rw [show threeF (fieldS x ((k : Int) + 1)) (fieldS y ((k : Int) + 1)) (fieldS z ((k : Int) + 1)) = r1 from hr1.symm] at hf4
   obtain ⟨⟨th1, en1, ⟨a1, a2, a3, a4, a5⟩, it1⟩, ok1⟩ := r1
   unfold ThreePost at hf4
   simp only [stCells] at hf4
   have Hf4 := Lib.hid hf4
   have Hr1 := Lib.hid hr1
   clear hSK HV hf4 hr1 hid id
   go_cut [19, 20] from 51 to 64 (fun p s W1 => ∃ g, p = .pointer (some ⟨g, 0, none⟩) ∧ s = .bool ok1 ∧ wr.heap.size ≤ g ∧ Box W1 g 45 [.bool th1, .bool en1, .int .i64 a1, .string a2, .string a3, .int .i64 a4, .int .i64 a5, .string it1] ∧ RowKit.Below wr.heap.size wr W1)
   case first =>
    have hB := below_drew (Below.refl wr.heap.size wr)
    have hS := HSK.out _ hB
    refine late_start (fun W' => (W'.cell? ⟨X, 0, none⟩ = some (.string x.name) ∧ W'.cell? ⟨X, 1, none⟩ = some (.bool x.enum) ∧ W'.cell? ⟨X, 2, none⟩ = some (.slice P1 x.fields.length Pa) ∧ W'.cell? ⟨X, 3, none⟩ = some (.slice P2 x.gone.length Pb) ∧ W'.cell? ⟨X, 4, none⟩ = some (.slice P3 x.items.length Pc)) ∧ (W'.cell? ⟨Y, 0, none⟩ = some (.string y.name) ∧ W'.cell? ⟨Y, 1, none⟩ = some (.bool y.enum) ∧ W'.cell? ⟨Y, 2, none⟩ = some (.slice Q1 y.fields.length Qa) ∧ W'.cell? ⟨Y, 3, none⟩ = some (.slice Q2 y.gone.length Qb) ∧ W'.cell? ⟨Y, 4, none⟩ = some (.slice Q3 y.items.length Qc)) ∧ (W'.cell? ⟨Z, 0, none⟩ = some (.string z.name) ∧ W'.cell? ⟨Z, 1, none⟩ = some (.bool z.enum) ∧ W'.cell? ⟨Z, 2, none⟩ = some (.slice R1 z.fields.length Ra) ∧ W'.cell? ⟨Z, 3, none⟩ = some (.slice R2 z.gone.length Rb) ∧ W'.cell? ⟨Z, 4, none⟩ = some (.slice R3 z.items.length Rc))) 15 (by kernel_rfl) ?_
    generalize wr.drew = Wb at hB hS ⊢
    refine tkL 0 hS ?_
    try simp only [pu]
    refine tkL 1 hS ?_
    try simp only [pu]
    refine tkL 3 hS ?_
    try simp only [pu]
    refine tkL 4 hS ?_
    try simp only [pu]
    refine tkL 6 hS ?_
    try simp only [pu]
    refine tkL 7 hS ?_
    try simp only [pu]
    refine late_two (i := 2) (j := 13) rfl rfl (by kernel_rfl) (fun K hK => ?_) (fun K hK => ?_)
    rotate_left
    go_simp
    have hG := newState hB
    have hGl := hB.size
    try simp only [drew_size] at hG hGl
    replace hB := hB.alloc hB.size (.cells #[.bool false, .bool false, .int .i64 0, .string ⟨#[]⟩, .string ⟨#[]⟩, .int .i64 0, .int .i64 0, .string ⟨#[]⟩] 45)
    clear hS
    have hS := HSK.out _ hB
    refine hK.out _ _ (fun _ => hS) ?_
    clear hK K
    try simp only [pu]
    generalize (World.alloc _ (.cells #[.bool false, .bool false, .int .i64 0, .string ⟨#[]⟩, .string ⟨#[]⟩, .int .i64 0, .int .i64 0, .string ⟨#[]⟩] 45)) = WW at hB hG hS ⊢
    refine late_one (i := 2) rfl (by kernel_rfl) (fun K hK => ?_)
    all_goals
     go_simp
     refine (Hf1.out _ hB).mono ?_
     rintro e wn ⟨rfl, hbn⟩
     replace hB := below_via hB hbn hB.size
     try replace hG := hG.below hbn hG.lt
     clear hS hbn
     have hS := HSK.out _ hB
     refine hK.out _ _ (fun _ => hS) ?_
     clear hK K
     try simp only [pu]
    refine late_one (i := 5) rfl (by kernel_rfl) (fun K hK => ?_)
    rotate_left
    refine late_two (i := 5) (j := 13) rfl rfl (by kernel_rfl) (fun K hK => ?_) (fun K hK => ?_)
    rotate_left
    go_simp
    have hG := newState hB
    have hGl := hB.size
    try simp only [drew_size] at hG hGl
    replace hB := hB.alloc hB.size (.cells #[.bool false, .bool false, .int .i64 0, .string ⟨#[]⟩, .string ⟨#[]⟩, .int .i64 0, .int .i64 0, .string ⟨#[]⟩] 45)
    clear hS
    have hS := HSK.out _ hB
    refine hK.out _ _ (fun _ => hS) ?_
    clear hK K
    try simp only [pu]
    generalize (World.alloc _ (.cells #[.bool false, .bool false, .int .i64 0, .string ⟨#[]⟩, .string ⟨#[]⟩, .int .i64 0, .int .i64 0, .string ⟨#[]⟩] 45)) = WW at hB hG hS ⊢
    refine late_one (i := 5) rfl (by kernel_rfl) (fun K hK => ?_)
    all_goals
     go_simp
     refine (Hf2.out _ hB).mono ?_
     rintro e wn ⟨rfl, hbn⟩
     replace hB := below_via hB hbn hB.size
     try replace hG := hG.below hbn hG.lt
     clear hS hbn
     have hS := HSK.out _ hB
     refine hK.out _ _ (fun _ => hS) ?_
     clear hK K
     try simp only [pu]
    iterate 2
     refine late_one (i := 8) rfl (by kernel_rfl) (fun K hK => ?_)
     rotate_left
    refine late_two (i := 8) (j := 13) rfl rfl (by kernel_rfl) (fun K hK => ?_) (fun K hK => ?_)
    rotate_left
    go_simp
    have hG := newState hB
    have hGl := hB.size
    try simp only [drew_size] at hG hGl
    replace hB := hB.alloc hB.size (.cells #[.bool false, .bool false, .int .i64 0, .string ⟨#[]⟩, .string ⟨#[]⟩, .int .i64 0, .int .i64 0, .string ⟨#[]⟩] 45)
    clear hS
    have hS := HSK.out _ hB
    refine hK.out _ _ (fun _ => hS) ?_
    clear hK K
    try simp only [pu]
    generalize (World.alloc _ (.cells #[.bool false, .bool false, .int .i64 0, .string ⟨#[]⟩, .string ⟨#[]⟩, .int .i64 0, .int .i64 0, .string ⟨#[]⟩] 45)) = WW at hB hG hS ⊢
    refine late_one (i := 8) rfl (by kernel_rfl) (fun K hK => ?_)
    all_goals
     go_simp
     refine (Hf3.out _ hB).mono ?_
     rintro e wn ⟨rfl, hbn⟩
     replace hB := below_via hB hbn hB.size
     try replace hG := hG.below hbn hG.lt
     clear hS hbn
     have hS := HSK.out _ hB
     refine hK.out _ _ (fun _ => hS) ?_
     clear hK K
     try simp only [pu]
    iterate 3
     refine late_one (i := 9) rfl (by kernel_rfl) (fun K hK => ?_)
     rotate_left
    refine late_two (i := 9) (j := 13) rfl rfl (by kernel_rfl) (fun K hK => ?_) (fun K hK => ?_)
    rotate_left
    go_simp
    have hG := newState hB
    have hGl := hB.size
    try simp only [drew_size] at hG hGl
    replace hB := hB.alloc hB.size (.cells #[.bool false, .bool false, .int .i64 0, .string ⟨#[]⟩, .string ⟨#[]⟩, .int .i64 0, .int .i64 0, .string ⟨#[]⟩] 45)
    clear hS
    have hS := HSK.out _ hB
    refine hK.out _ _ (fun _ => hS) ?_
    clear hK K
    try simp only [pu]
    generalize (World.alloc _ (.cells #[.bool false, .bool false, .int .i64 0, .string ⟨#[]⟩, .string ⟨#[]⟩, .int .i64 0, .int .i64 0, .string ⟨#[]⟩] 45)) = WW at hB hG hS ⊢
    refine late_one (i := 9) rfl (by kernel_rfl) (fun K hK => ?_)
    all_goals
     go_simp
     refine (Hf4.out _ hB).mono ?_
     rintro e wn ⟨rfl, hbn⟩
     replace hB := below_via hB hbn hB.size
     try replace hG := hG.below hbn hG.lt
     clear hS hbn
     have hS := HSK.out _ hB
     refine hK.out _ _ (fun _ => hS) ?_
     clear hK K
     try simp only [pu]
     refine tkL 10 hS ?_
     try simp only [pu]
     refine tkL 11 hS ?_
     try simp only [pu]
     refine tkL 12 hS ?_
     try simp only [pu]
    rotate_right
    refine late_one (i := 13) rfl (by kernel_rfl) (fun K hK => ?_)
    go_simp
    have hG := newState hB
    have hGl := hB.size
    try simp only [drew_size] at hG hGl
    replace hB := hB.alloc hB.size (.cells #[.bool false, .bool false, .int .i64 0, .string ⟨#[]⟩, .string ⟨#[]⟩, .int .i64 0, .int .i64 0, .string ⟨#[]⟩] 45)
    clear hS
    have hS := HSK.out _ hB
    refine hK.out _ _ (fun _ => hS) ?_
    clear hK K
    try simp only [pu]
    generalize (World.alloc _ (.cells #[.bool false, .bool false, .int .i64 0, .string ⟨#[]⟩, .string ⟨#[]⟩, .int .i64 0, .int .i64 0, .string ⟨#[]⟩] 45)) = WW at hB hG hS ⊢
    all_goals
     obtain ⟨r0, r1, r2, r3, r4, r5, r6, r7⟩ := hG.eight
     have g0 := hG.frozen 0
     have g1 := hG.frozen 1
     have g2 := hG.frozen 2
     have g3 := hG.frozen 3
     have g4 := hG.frozen 4
     have g5 := hG.frozen 5
     have g6 := hG.frozen 6
     have g7 := hG.frozen 7
     have hlr := hG.lt
     refine late_one (i := 14) rfl (by kernel_rfl) (fun K hK => ?_)
     go_simp
     clear r0 r1 r2 r3 r4 r5 r6 r7 g0 g1 g2 g3 g4 g5 g6 g7
     replace hB := below_setCells hGl [.bool th1, .bool en1, .int .i64 a1, .string a2, .string a3, .int .i64 a4, .int .i64 a5, .string it1] 0 _ hB
     replace hG := hG.setCells [.bool th1, .bool en1, .int .i64 a1, .string a2, .string a3, .int .i64 a4, .int .i64 a5, .string it1] rfl
     clear hS hlr
     change K _ (setCells _ _ 0 [.bool th1, .bool en1, .int .i64 a1, .string a2, .string a3, .int .i64 a4, .int .i64 a5, .string it1])
     generalize setCells _ _ 0 [.bool th1, .bool en1, .int .i64 a1, .string a2, .string a3, .int .i64 a4, .int .i64 a5, .string it1] = W5 at hB hG ⊢
     have hS := HSK.out _ hB
     refine hK.out _ _ (fun _ => hS) ?_
     clear hK K
     try simp only [pu]
     refine late_one (i := 15) rfl (by kernel_rfl) (fun K hK => ?_)
     go_simp
     refine hK.out _ _ (fun h => absurd h (by decide)) ?_
     clear hK K
     try simp only [pu]
     refine late_done (by kernel_rfl) ?_ _
     go_wp2_with fail
     go_meet
     case rel => exact ⟨_, rfl, rfl, hGl, hG, hB⟩
   case rest =>
    clear HSK Hf1 Hf2 Hf3 Hf4
    obtain ⟨p1, rfl, rfl, hp1, hG1, hb1⟩ := hcut
    obtain ⟨V1, hV1⟩ : ∃ V, V = wc := ⟨_, rfl⟩
    subst hV1
    have hbV := hb.trans (hb1.mono hvs)
    have hvs1 : Z + 1 ≤ V1.heap.size := by have := hbV.size; go_light; omega
    have hT1 := hT.below hb1
    have hbt1 := hbt.below hb1 hbt.lt
    have HV : ∀ W', RowKit.Below V1.heap.size V1 W' → RowKit.Below (Z + 1) Wd W' := fun W' h => hbV.trans (h.mono hvs1)
    have hSK : ∀ W', RowKit.Below V1.heap.size V1 W' → (fun W' => (W'.cell? ⟨X, 0, none⟩ = some (.string x.name) ∧ W'.cell? ⟨X, 1, none⟩ = some (.bool x.enum) ∧ W'.cell? ⟨X, 2, none⟩ = some (.slice P1 x.fields.length Pa) ∧ W'.cell? ⟨X, 3, none⟩ = some (.slice P2 x.gone.length Pb) ∧ W'.cell? ⟨X, 4, none⟩ = some (.slice P3 x.items.length Pc)) ∧ (W'.cell? ⟨Y, 0, none⟩ = some (.string y.name) ∧ W'.cell? ⟨Y, 1, none⟩ = some (.bool y.enum) ∧ W'.cell? ⟨Y, 2, none⟩ = some (.slice Q1 y.fields.length Qa) ∧ W'.cell? ⟨Y, 3, none⟩ = some (.slice Q2 y.gone.length Qb) ∧ W'.cell? ⟨Y, 4, none⟩ = some (.slice Q3 y.items.length Qc)) ∧ (W'.cell? ⟨Z, 0, none⟩ = some (.string z.name) ∧ W'.cell? ⟨Z, 1, none⟩ = some (.bool z.enum) ∧ W'.cell? ⟨Z, 2, none⟩ = some (.slice R1 z.fields.length Ra) ∧ W'.cell? ⟨Z, 3, none⟩ = some (.slice R2 z.gone.length Rb) ∧ W'.cell? ⟨Z, 4, none⟩ = some (.slice R3 z.items.length Rc))) W' := fun W' h => ⟨(HALL.out W' (HV W' h)).2.2.2.1.five, (HALL.out W' (HV W' h)).2.2.2.2.1.five, (HALL.out W' (HV W' h)).2.2.2.2.2.1.five⟩
    have HSK := Lib.hid hSK
    have Hf1 := Lib.hid (fun W' (h : RowKit.Below V1.heap.size V1 W') => gone_any (Old w) _ x ((k : Int) + 1) W' (HALL.out W' (HV W' h)).1)
    have Hf2 := Lib.hid (fun W' (h : RowKit.Below V1.heap.size V1 W') => gone_any (Old w) _ y ((k : Int) + 1) W' (HALL.out W' (HV W' h)).2.1)
    have Hf3 := Lib.hid (fun W' (h : RowKit.Below V1.heap.size V1 W') => gone_any (Old w) _ z ((k : Int) + 1) W' (HALL.out W' (HV W' h)).2.2.1)
    have hf4 := fun W' (h : RowKit.Below V1.heap.size V1 W') => three_any (goneS x ((k : Int) + 1)) (goneS y ((k : Int) + 1)) (goneS z ((k : Int) + 1)) W'
    obtain ⟨r2, hr2⟩ : ∃ r, r = gT x y z ((k : Int) + 1) := ⟨_, rfl⟩
    rw [show threeF (goneS x ((k : Int) + 1)) (goneS y ((k : Int) + 1)) (goneS z ((k : Int) + 1)) = r2 from hr2.symm] at hf4
    obtain ⟨⟨th2, en2, ⟨b1, b2, b3, b4, b5⟩, it2⟩, ok2⟩ := r2
    unfold ThreePost at hf4
    simp only [stCells] at hf4
    have Hf4 := Lib.hid hf4
    have Hr2 := Lib.hid hr2
    clear hSK HV hf4 hr2 hT hbt hb
    go_upto_region 10 with fail
    go_cut [21, 22] from 64 to 77 (fun p s W1 => ∃ g, p = .pointer (some ⟨g, 0, none⟩) ∧ s = .bool ok2 ∧ V1.heap.size ≤ g ∧ Box W1 g 45 [.bool th2, .bool en2, .int .i64 b1, .string b2, .string b3, .int .i64 b4, .int .i64 b5, .string it2] ∧ RowKit.Below V1.heap.size V1 W1)
    case first =>
     have hB := below_drew (Below.refl V1.heap.size V1)
     have hS := HSK.out _ hB
     refine late_start (fun W' => (W'.cell? ⟨X, 0, none⟩ = some (.string x.name) ∧ W'.cell? ⟨X, 1, none⟩ = some (.bool x.enum) ∧ W'.cell? ⟨X, 2, none⟩ = some (.slice P1 x.fields.length Pa) ∧ W'.cell? ⟨X, 3, none⟩ = some (.slice P2 x.gone.length Pb) ∧ W'.cell? ⟨X, 4, none⟩ = some (.slice P3 x.items.length Pc)) ∧ (W'.cell? ⟨Y, 0, none⟩ = some (.string y.name) ∧ W'.cell? ⟨Y, 1, none⟩ = some (.bool y.enum) ∧ W'.cell? ⟨Y, 2, none⟩ = some (.slice Q1 y.fields.length Qa) ∧ W'.cell? ⟨Y, 3, none⟩ = some (.slice Q2 y.gone.length Qb) ∧ W'.cell? ⟨Y, 4, none⟩ = some (.slice Q3 y.items.length Qc)) ∧ (W'.cell? ⟨Z, 0, none⟩ = some (.string z.name) ∧ W'.cell? ⟨Z, 1, none⟩ = some (.bool z.enum) ∧ W'.cell? ⟨Z, 2, none⟩ = some (.slice R1 z.fields.length Ra) ∧ W'.cell? ⟨Z, 3, none⟩ = some (.slice R2 z.gone.length Rb) ∧ W'.cell? ⟨Z, 4, none⟩ = some (.slice R3 z.items.length Rc))) 15 (by kernel_rfl) ?_
     generalize V1.drew = Wb at hB hS ⊢
     refine tkL 0 hS ?_
     try simp only [pu]
     refine tkL 1 hS ?_
     try simp only [pu]
     refine tkL 3 hS ?_
     try simp only [pu]
     refine tkL 4 hS ?_
     try simp only [pu]
     refine tkL 6 hS ?_
     try simp only [pu]
     refine tkL 7 hS ?_
     try simp only [pu]
     refine late_two (i := 2) (j := 13) rfl rfl (by kernel_rfl) (fun K hK => ?_) (fun K hK => ?_)
     rotate_left
     go_simp
     have hG := newState hB
     have hGl := hB.size
     try simp only [drew_size] at hG hGl
     replace hB := hB.alloc hB.size (.cells #[.bool false, .bool false, .int .i64 0, .string ⟨#[]⟩, .string ⟨#[]⟩, .int .i64 0, .int .i64 0, .string ⟨#[]⟩] 45)
     clear hS
     have hS := HSK.out _ hB
     refine hK.out _ _ (fun _ => hS) ?_
     clear hK K
     try simp only [pu]
     generalize (World.alloc _ (.cells #[.bool false, .bool false, .int .i64 0, .string ⟨#[]⟩, .string ⟨#[]⟩, .int .i64 0, .int .i64 0, .string ⟨#[]⟩] 45)) = WW at hB hG hS ⊢
     refine late_one (i := 2) rfl (by kernel_rfl) (fun K hK => ?_)
     all_goals
      go_simp
      refine (Hf1.out _ hB).mono ?_
      rintro e wn ⟨rfl, hbn⟩
      replace hB := below_via hB hbn hB.size
      try replace hG := hG.below hbn hG.lt
      clear hS hbn
      have hS := HSK.out _ hB
      refine hK.out _ _ (fun _ => hS) ?_
      clear hK K
      try simp only [pu]
     refine late_one (i := 5) rfl (by kernel_rfl) (fun K hK => ?_)
     rotate_left
     refine late_two (i := 5) (j := 13) rfl rfl (by kernel_rfl) (fun K hK => ?_) (fun K hK => ?_)
     rotate_left
     go_simp
     have hG := newState hB
     have hGl := hB.size
     try simp only [drew_size] at hG hGl
     replace hB := hB.alloc hB.size (.cells #[.bool false, .bool false, .int .i64 0, .string ⟨#[]⟩, .string ⟨#[]⟩, .int .i64 0, .int .i64 0, .string ⟨#[]⟩] 45)
     clear hS
     have hS := HSK.out _ hB
     refine hK.out _ _ (fun _ => hS) ?_
     clear hK K
     try simp only [pu]
     generalize (World.alloc _ (.cells #[.bool false, .bool false, .int .i64 0, .string ⟨#[]⟩, .string ⟨#[]⟩, .int .i64 0, .int .i64 0, .string ⟨#[]⟩] 45)) = WW at hB hG hS ⊢
     refine late_one (i := 5) rfl (by kernel_rfl) (fun K hK => ?_)
     all_goals
      go_simp
      refine (Hf2.out _ hB).mono ?_
      rintro e wn ⟨rfl, hbn⟩
      replace hB := below_via hB hbn hB.size
      try replace hG := hG.below hbn hG.lt
      clear hS hbn
      have hS := HSK.out _ hB
      refine hK.out _ _ (fun _ => hS) ?_
      clear hK K
      try simp only [pu]
     iterate 2
      refine late_one (i := 8) rfl (by kernel_rfl) (fun K hK => ?_)
      rotate_left
     refine late_two (i := 8) (j := 13) rfl rfl (by kernel_rfl) (fun K hK => ?_) (fun K hK => ?_)
     rotate_left
     go_simp
     have hG := newState hB
     have hGl := hB.size
     try simp only [drew_size] at hG hGl
     replace hB := hB.alloc hB.size (.cells #[.bool false, .bool false, .int .i64 0, .string ⟨#[]⟩, .string ⟨#[]⟩, .int .i64 0, .int .i64 0, .string ⟨#[]⟩] 45)
     clear hS
     have hS := HSK.out _ hB
     refine hK.out _ _ (fun _ => hS) ?_
     clear hK K
     try simp only [pu]
     generalize (World.alloc _ (.cells #[.bool false, .bool false, .int .i64 0, .string ⟨#[]⟩, .string ⟨#[]⟩, .int .i64 0, .int .i64 0, .string ⟨#[]⟩] 45)) = WW at hB hG hS ⊢
     refine late_one (i := 8) rfl (by kernel_rfl) (fun K hK => ?_)
     all_goals
      go_simp
      refine (Hf3.out _ hB).mono ?_
      rintro e wn ⟨rfl, hbn⟩
      replace hB := below_via hB hbn hB.size
      try replace hG := hG.below hbn hG.lt
      clear hS hbn
      have hS := HSK.out _ hB
      refine hK.out _ _ (fun _ => hS) ?_
      clear hK K
      try simp only [pu]
     iterate 3
      refine late_one (i := 9) rfl (by kernel_rfl) (fun K hK => ?_)
      rotate_left
     refine late_two (i := 9) (j := 13) rfl rfl (by kernel_rfl) (fun K hK => ?_) (fun K hK => ?_)
     rotate_left
     go_simp
     have hG := newState hB
     have hGl := hB.size
     try simp only [drew_size] at hG hGl
     replace hB := hB.alloc hB.size (.cells #[.bool false, .bool false, .int .i64 0, .string ⟨#[]⟩, .string ⟨#[]⟩, .int .i64 0, .int .i64 0, .string ⟨#[]⟩] 45)
     clear hS
     have hS := HSK.out _ hB
     refine hK.out _ _ (fun _ => hS) ?_
     clear hK K
     try simp only [pu]
     generalize (World.alloc _ (.cells #[.bool false, .bool false, .int .i64 0, .string ⟨#[]⟩, .string ⟨#[]⟩, .int .i64 0, .int .i64 0, .string ⟨#[]⟩] 45)) = WW at hB hG hS ⊢
     refine late_one (i := 9) rfl (by kernel_rfl) (fun K hK => ?_)
     all_goals
      go_simp
      refine (Hf4.out _ hB).mono ?_
      rintro e wn ⟨rfl, hbn⟩
      replace hB := below_via hB hbn hB.size
      try replace hG := hG.below hbn hG.lt
      clear hS hbn
      have hS := HSK.out _ hB
      refine hK.out _ _ (fun _ => hS) ?_
      clear hK K
      try simp only [pu]
      refine tkL 10 hS ?_
      try simp only [pu]
      refine tkL 11 hS ?_
      try simp only [pu]
      refine tkL 12 hS ?_
      try simp only [pu]
     rotate_right
     refine late_one (i := 13) rfl (by kernel_rfl) (fun K hK => ?_)
     go_simp
     have hG := newState hB
     have hGl := hB.size
     try simp only [drew_size] at hG hGl
     replace hB := hB.alloc hB.size (.cells #[.bool false, .bool false, .int .i64 0, .string ⟨#[]⟩, .string ⟨#[]⟩, .int .i64 0, .int .i64 0, .string ⟨#[]⟩] 45)
     clear hS
     have hS := HSK.out _ hB
     refine hK.out _ _ (fun _ => hS) ?_
     clear hK K
     try simp only [pu]
     generalize (World.alloc _ (.cells #[.bool false, .bool false, .int .i64 0, .string ⟨#[]⟩, .string ⟨#[]⟩, .int .i64 0, .int .i64 0, .string ⟨#[]⟩] 45)) = WW at hB hG hS ⊢
     all_goals
      obtain ⟨r0, r1, r2, r3, r4, r5, r6, r7⟩ := hG.eight
      have g0 := hG.frozen 0
      have g1 := hG.frozen 1
      have g2 := hG.frozen 2
      have g3 := hG.frozen 3
      have g4 := hG.frozen 4
      have g5 := hG.frozen 5
      have g6 := hG.frozen 6
      have g7 := hG.frozen 7
      have hlr := hG.lt
      refine late_one (i := 14) rfl (by kernel_rfl) (fun K hK => ?_)
      go_simp
      clear r0 r1 r2 r3 r4 r5 r6 r7 g0 g1 g2 g3 g4 g5 g6 g7
      replace hB := below_setCells hGl [.bool th2, .bool en2, .int .i64 b1, .string b2, .string b3, .int .i64 b4, .int .i64 b5, .string it2] 0 _ hB
      replace hG := hG.setCells [.bool th2, .bool en2, .int .i64 b1, .string b2, .string b3, .int .i64 b4, .int .i64 b5, .string it2] rfl
      clear hS hlr
      change K _ (setCells _ _ 0 [.bool th2, .bool en2, .int .i64 b1, .string b2, .string b3, .int .i64 b4, .int .i64 b5, .string it2])
      generalize setCells _ _ 0 [.bool th2, .bool en2, .int .i64 b1, .string b2, .string b3, .int .i64 b4, .int .i64 b5, .string it2] = W5 at hB hG ⊢
      have hS := HSK.out _ hB
      refine hK.out _ _ (fun _ => hS) ?_
      clear hK K
      try simp only [pu]
      refine late_one (i := 15) rfl (by kernel_rfl) (fun K hK => ?_)
      go_simp
      refine hK.out _ _ (fun h => absurd h (by decide)) ?_
      clear hK K
      try simp only [pu]
      refine late_done (by kernel_rfl) ?_ _
      go_wp2_with fail
      go_meet
      case rel => exact ⟨_, rfl, rfl, hGl, hG, hB⟩
    case rest =>
     clear HSK Hf1 Hf2 Hf3 Hf4
     obtain ⟨p2, rfl, rfl, hp2, hG2, hb2⟩ := hcut
     obtain ⟨V2, hV2⟩ : ∃ V, V = wc := ⟨_, rfl⟩
     subst hV2
     have hbV2 := hbV.trans (hb2.mono hvs1)
     have hT2 := hT1.below hb2
     have hbt2 := hbt1.below hb2 hbt1.lt
     have hG1' := hG1.below hb2 hG1.lt
     have hsz2 := hbV2.size
     clear hT1 hbt1 hG1 hbV hb1 hb2
     obtain ⟨Sf, cf, rfl, hcf⟩ := hT2.f.form
     obtain ⟨Sg, cg, rfl, hcg⟩ := hT2.g.form
     obtain ⟨Sb, cb, rfl, hcb⟩ := hT2.b.form
     obtain ⟨m0, m1, m2, m3, m4, m5, m6, m7⟩ := hG1'.eight
     have n0 : V2.cell? ⟨p2, 0, none⟩ = some (.bool th2) := hG2.cell 0
     have hlm := hG1'.lt
     have hln := hG2.lt
     obtain ⟨t0, t1, t2, t3, t4⟩ := hbt2.five
     have hlt2 := hbt2.lt
     have f2 := hbt2.frozen 2
     have f3 := hbt2.frozen 3
     have Hlen := hlen
     have hlF : F.length ≤ k := Hlen.out.1
     have hlG : G.length ≤ k := Hlen.out.2.1
     have hlB : B.length ≤ k := Hlen.out.2.2
     clear hG1' hG2 hlen
     by_cases hbad : (!ok1 || (th1 && th2)) = true
     ·obtain ⟨e1, e2, e3⟩ := at_bad (name := name) Hr1.out Hr2.out hbad
      have HF := Lib.hid (show F = (idsL.take (k + 1)).flatMap (fieldsAt x y z) by rw [idsL_step _ hlt, e1, List.append_nil]; exact hF.out)
      have HG := Lib.hid (show G = (idsL.take (k + 1)).flatMap (goneAt x y z) by rw [idsL_step _ hlt, e2, List.append_nil]; exact hG0.out)
      have HBd := Lib.hid (show B ++ [⟨name, (k : Int) + 1, 0⟩] = (idsL.take (k + 1)).flatMap (badAt x y z name) by rw [idsL_step _ hlt, e3, ← hBd.out])
      clear hF hG0 hBd e1 e2 e3 Hr1 Hr2
      cases ok1 <;> cases th1 <;> cases th2 <;> simp at hbad
      all_goals clear hbad
      all_goals
       go_wp2_with (at_builtin; go_must (refine wl_append _ rfl (.tmp 88) (.tmp 92) rfl sl_flaws RFlaw.fair rfl rfl (hT2.b.alloc RFlaw.fair _) (Src.one (es := [.string name, .int .i64 ((k : Int) + 1), .int .i64 0]) (y := FlawD.mk name ((k : Int) + 1) 0) rfl (Ones.of_all rfl) rfl (Lies.newAt (by first | rfl | simp [World.setCell]))) (NoT.lt _) ?_ ?_ ?_))
       ·go_light; (try simp only [List.length_cons, List.length_nil]); omega
       ·go_light; simp only [World.size_alloc]; omega
       ·intro v6 w6 ho6 hg6 hv6
        have hT6 := (hT2.alloc _).pushB hg6 ho6
        have hbt6 := (hbt2.alloc _).grownR (hT2.b.alloc RFlaw.fair _) (.inl (by go_light; omega)) hg6
        have hb6 := below_grown (hbV2.alloc (by go_light; omega) (.cells #[.string name, .int .i64 ((k : Int) + 1), .int .i64 0] 50)) hg6 (by go_light; simp only [World.size_alloc]; omega) (fun g' h => by have := (hT2.b.lt h).1; go_light; omega)
        go_wp2_with fail
        go_roundw
        case rel => exact ⟨k + 1, F, G, B ++ [⟨name, (k : Int) + 1, 0⟩], _, _, by go_num, by omega, HF, HG, HBd, (show _ ∧ _ ∧ _ by refine ⟨?_, ?_, ?_⟩ <;> (try simp only [List.length_append, List.length_cons, List.length_nil]) <;> omega), hT6, hbt6, hb6⟩
        case measure => simp [intOf]; omega
     ·have hok : ok1 = true := by cases ok1 <;> simp_all
      subst hok
      cases th1
      ·cases th2
       ·obtain ⟨e1, e2, e3⟩ := at_none (name := name) Hr1.out Hr2.out rfl rfl
        have HF := Lib.hid (show F = (idsL.take (k + 1)).flatMap (fieldsAt x y z) by rw [idsL_step _ hlt, e1, List.append_nil]; exact hF.out)
        have HG := Lib.hid (show G = (idsL.take (k + 1)).flatMap (goneAt x y z) by rw [idsL_step _ hlt, e2, List.append_nil]; exact hG0.out)
        have HBd := Lib.hid (show B = (idsL.take (k + 1)).flatMap (badAt x y z name) by rw [idsL_step _ hlt, e3, List.append_nil]; exact hBd.out)
        clear hF hG0 hBd e1 e2 e3 Hr1 Hr2 hbad
        go_wp2_with fail
        go_roundw
        case rel => exact ⟨k + 1, F, G, B, _, _, by go_num, by omega, HF, HG, HBd, (show _ ∧ _ ∧ _ by refine ⟨?_, ?_, ?_⟩ <;> (try simp only [List.length_append, List.length_cons, List.length_nil]) <;> omega), hT2, hbt2, hbV2⟩
        case measure => simp [intOf]; omega
       ·obtain ⟨e1, e2, e3⟩ := at_gone (name := name) Hr1.out Hr2.out rfl rfl
        have HF := Lib.hid (show F = (idsL.take (k + 1)).flatMap (fieldsAt x y z) by rw [idsL_step _ hlt, e1, List.append_nil]; exact hF.out)
        have HG := Lib.hid (show G ++ [(k : Int) + 1] = (idsL.take (k + 1)).flatMap (goneAt x y z) by rw [idsL_step _ hlt, e2, ← hG0.out])
        have HBd := Lib.hid (show B = (idsL.take (k + 1)).flatMap (badAt x y z name) by rw [idsL_step _ hlt, e3, List.append_nil]; exact hBd.out)
        clear hF hG0 hBd e1 e2 e3 Hr1 Hr2 hbad
        go_wp2_with (at_builtin; go_must (refine wl_append _ rfl (.tmp 108) (.tmp 110) rfl sl_ints RInt.fair rfl rfl (hT2.g.alloc RInt.fair _) (Src.one (es := [.int .i64 ((k : Int) + 1)]) (y := (k : Int) + 1) rfl (Ones.of_all rfl) rfl (Lies.newAt (by first | rfl | simp [World.setCell]))) (NoT.lt _) ?_ ?_ ?_))
        ·go_light; (try simp only [List.length_cons, List.length_nil]); omega
        ·go_light; simp only [World.size_alloc]; omega
        ·intro v6 w6 ho6 hg6 hv6
         obtain ⟨A6, c6, rfl, -⟩ := ho6.form
         simp only [List.length_append, List.length_cons, List.length_nil, Nat.zero_add] at ho6
         have hT6 := (hT2.alloc _).pushG hg6 ho6
         have hbt6 := (hbt2.alloc _).grownR (hT2.g.alloc RInt.fair _) (.inl (by go_light; omega)) hg6
         have hb6 := below_grown (hbV2.alloc (by go_light; omega) (.cells #[.int .i64 ((k : Int) + 1)] 3)) hg6 (by go_light; simp only [World.size_alloc]; omega) (fun g' h => by have := (hT2.g.lt h).1; go_light; omega)
         clear t0 t1 t2 t3 t4 f2 f3 hlt2 m0 m1 m2 m3 m4 m5 m6 m7 n0 hlm hln hT2 hbt2
         have t3 : w6.cell? ⟨Z + 1, 3, none⟩ = some (.slice Sg G.length cg) := hbt6.cell 3
         have f3 := hbt6.frozen 3
         have hlt6 := hbt6.lt
         go_wp2_with fail
         go_roundw
         case rel =>
          have hbt7 := hbt6.set_ 3 (.slice A6 (G.length + 1) c6)
          simp only [List.set_cons_zero, List.set_cons_succ] at hbt7
          exact ⟨k + 1, F, G ++ [(k : Int) + 1], B, _, _, by go_num, by omega, HF, HG, HBd, (show _ ∧ _ ∧ _ by refine ⟨?_, ?_, ?_⟩ <;> (try simp only [List.length_append, List.length_cons, List.length_nil]) <;> omega), hT6.setCell (p := ⟨Z + 1, 3, none⟩) (.slice A6 (G.length + 1) c6) (by go_light; show Z + 1 < _; omega), hbt7, hb6.setCell (p := ⟨Z + 1, 3, none⟩) (Nat.le_refl _) _⟩
         case measure => simp [intOf]; omega
      ·have h2f : th2 = false := by cases th2 <;> simp_all
       subst h2f
       obtain ⟨e1, e2, e3⟩ := at_field (name := name) Hr1.out Hr2.out rfl rfl
       dsimp only at e1
       have HF := Lib.hid (show F ++ [⟨a1, a2, a3, a4, a5⟩] = (idsL.take (k + 1)).flatMap (fieldsAt x y z) by rw [idsL_step _ hlt, e1, ← hF.out])
       have HG := Lib.hid (show G = (idsL.take (k + 1)).flatMap (goneAt x y z) by rw [idsL_step _ hlt, e2, List.append_nil]; exact hG0.out)
       have HBd := Lib.hid (show B = (idsL.take (k + 1)).flatMap (badAt x y z name) by rw [idsL_step _ hlt, e3, List.append_nil]; exact hBd.out)
       clear hF hG0 hBd e1 e2 e3 Hr1 Hr2 hbad
       go_wp2_with (at_builtin; go_must (refine wl_append _ rfl (.tmp 98) (.tmp 101) rfl sl_fields RField.fair rfl rfl (hT2.f.alloc RField.fair _) (Src.one (es := [.int .i64 a1, .string a2, .string a3, .int .i64 a4, .int .i64 a5]) (y := FieldD.mk a1 a2 a3 a4 a5) rfl (Ones.of_all rfl) rfl (Lies.newAt (by first | rfl | simp [World.setCell]))) (NoT.lt _) ?_ ?_ ?_))
       ·go_light; (try simp only [List.length_cons, List.length_nil]); omega
       ·go_light; simp only [World.size_alloc]; omega
       ·intro v6 w6 ho6 hg6 hv6
        obtain ⟨A6, c6, rfl, -⟩ := ho6.form
        simp only [List.length_append, List.length_cons, List.length_nil, Nat.zero_add] at ho6
        have hT6 := (hT2.alloc _).pushF hg6 ho6
        have hbt6 := (hbt2.alloc _).grownR (hT2.f.alloc RField.fair _) (.inl (by go_light; omega)) hg6
        have hb6 := below_grown (hbV2.alloc (by go_light; omega) (.cells #[.int .i64 a1, .string a2, .string a3, .int .i64 a4, .int .i64 a5] 43)) hg6 (by go_light; simp only [World.size_alloc]; omega) (fun g' h => by have := (hT2.f.lt h).1; go_light; omega)
        clear t0 t1 t2 t3 t4 f2 f3 hlt2 m0 m1 m2 m3 m4 m5 m6 m7 n0 hlm hln hT2 hbt2
        have t2 : w6.cell? ⟨Z + 1, 2, none⟩ = some (.slice Sf F.length cf) := hbt6.cell 2
        have f2 := hbt6.frozen 2
        have hlt6 := hbt6.lt
        go_wp2_with fail
        go_roundw
        case rel =>
         have hbt7 := hbt6.set_ 2 (.slice A6 (F.length + 1) c6)
         simp only [List.set_cons_zero, List.set_cons_succ] at hbt7
         exact ⟨k + 1, F ++ [⟨a1, a2, a3, a4, a5⟩], G, B, _, _, by go_num, by omega, HF, HG, HBd, (show _ ∧ _ ∧ _ by refine ⟨?_, ?_, ?_⟩ <;> (try simp only [List.length_append, List.length_cons, List.length_nil]) <;> omega), hT6.setCell (p := ⟨Z + 1, 2, none⟩) (.slice A6 (F.length + 1) c6) (by go_light; show Z + 1 < _; omega), hbt7, hb6.setCell (p := ⟨Z + 1, 2, none⟩) (Nat.le_refl _) _⟩
        case measure => simp [intOf]; omega
  ·have hk30 : k = 30 := by omega
   subst hk30
   have e1 : decide ((30 : Int) + 1 ≤ 30) = false := by decide
   have e30 : idsL.take 30 = idsL := List.take_of_length_le (by rw [idsL_len]; omega)
   have hF2 := hF.out
   have hG2 := hG0.out
   have hB2 := hBd.out
   rw [e30] at hF2 hG2 hB2
   have HF := Lib.hid hF2
   have HG := Lib.hid hG2
   have HBd := Lib.hid hB2
   have hll := hlen.out
   have hlB : B.length ≤ 30 := hll.2.2
   have hlF : F.length ≤ 30 := hll.1
   have hlG : G.length ≤ 30 := hll.2.1
   clear hF hG0 hBd hF2 hG2 hB2 hlen hll e30
   obtain ⟨hx0, hy0, hz0, bx, by_, bz, b8⟩ := HALL.out wr hb
   obtain ⟨x0, x1, x2, x3, x4⟩ := bx.five
   obtain ⟨y0, y1, y2, y3, y4⟩ := by_.five
   obtain ⟨z0, z1, z2, z3, z4⟩ := bz.five
   have lx := bx.lt
   have ly := by_.lt
   have lz := bz.lt
   have hwr := hb.size
   obtain ⟨N, hN⟩ : ∃ N, N = numbersF [x, y, z] := ⟨_, rfl⟩
   have hnl : ([x, y, z].flatMap fun t => t.items.map (·.n)).length ≤ 300 := by
    have h1 := Hx.out
    have h2 := Hy.out
    have h3 := Hz.out
    simp only [List.flatMap_cons, List.flatMap_nil, List.append_nil, List.length_append, List.length_map]
    omega
   have hNl : N.length ≤ 300 := by
    rw [hN]; unfold numbersF
    exact Nat.le_trans (compact_le _) (by rw [sortI_len]; exact hnl)
   have HNL := Lib.hid hNl
   have bw := Box.new wr 38 [.string x.name, .bool x.enum, .slice P1 x.fields.length Pa, .slice P2 x.gone.length Pb, .slice P3 x.items.length Pc, .string y.name, .bool y.enum, .slice Q1 y.fields.length Qa, .slice Q2 y.gone.length Qb, .slice Q3 y.items.length Qc, .string z.name, .bool z.enum, .slice R1 z.fields.length Ra, .slice R2 z.gone.length Rb, .slice R3 z.items.length Rc]
   have hka : Keep (Old w) wr (wr.alloc (.cells #[.string x.name, .bool x.enum, .slice P1 x.fields.length Pa, .slice P2 x.gone.length Pb, .slice P3 x.items.length Pc, .string y.name, .bool y.enum, .slice Q1 y.fields.length Qa, .slice Q2 y.gone.length Qb, .slice Q3 y.items.length Qc, .string z.name, .bool z.enum, .slice R1 z.fields.length Ra, .slice R2 z.gone.length Rb, .slice R3 z.items.length Rc] 38)) := Keep.alloc _ _ _
   have hrs : RSl 5 96 RType (fun _ => True) (wr.alloc (.cells #[.string x.name, .bool x.enum, .slice P1 x.fields.length Pa, .slice P2 x.gone.length Pb, .slice P3 x.items.length Pc, .string y.name, .bool y.enum, .slice Q1 y.fields.length Qa, .slice Q2 y.gone.length Qb, .slice Q3 y.items.length Qc, .string z.name, .bool z.enum, .slice R1 z.fields.length Ra, .slice R2 z.gone.length Rb, .slice R3 z.items.length Rc] 38)) [.slice (some ⟨wr.heap.size, 0, none⟩) 3 3] [x, y, z] := RSl.of_box (css := [[.string x.name, .bool x.enum, .slice P1 x.fields.length Pa, .slice P2 x.gone.length Pb, .slice P3 x.items.length Pc], [.string y.name, .bool y.enum, .slice Q1 y.fields.length Qa, .slice Q2 y.gone.length Qb, .slice Q3 y.items.length Qc], [.string z.name, .bool z.enum, .slice R1 z.fields.length Ra, .slice R2 z.gone.length Rb, .slice R3 z.items.length Rc]]) (xs := [x, y, z]) bw rfl trivial (by simp) (by simp) (by
    intro q t cs ht hcs
    have hq : q = 0 ∨ q = 1 ∨ q = 2 := by
     have : q < [x, y, z].length := by
      rcases Nat.lt_or_ge q [x, y, z].length with h | h
      ·exact h
      ·rw [List.getElem?_eq_none h] at ht; cases ht
     simp only [List.length_cons, List.length_nil] at this
     omega
    rcases hq with rfl | rfl | rfl
    ·simp only [List.getElem?_cons_zero, Option.some.injEq] at ht hcs
     subst ht; subst hcs
     exact ⟨rfl, RType.fair.mono (RType.fair.keep hx0 hka) (fun _ _ _ => trivial)⟩
    ·simp only [List.getElem?_cons_zero, List.getElem?_cons_succ, Option.some.injEq] at ht hcs
     subst ht; subst hcs
     exact ⟨rfl, RType.fair.mono (RType.fair.keep hy0 hka) (fun _ _ _ => trivial)⟩
    ·simp only [List.getElem?_cons_zero, List.getElem?_cons_succ, Option.some.injEq] at ht hcs
     subst ht; subst hcs
     exact ⟨rfl, RType.fair.mono (RType.fair.keep hz0 hka) (fun _ _ _ => trivial)⟩)
   have hcall := numbers_any _ _ [x, y, z] _ hrs (by omega)
   rw [← hN] at hcall
   have HCN := Lib.hid hcall
   have HN := Lib.hid hN
   have hTa := hT.alloc (.cells #[.string x.name, .bool x.enum, .slice P1 x.fields.length Pa, .slice P2 x.gone.length Pb, .slice P3 x.items.length Pc, .string y.name, .bool y.enum, .slice Q1 y.fields.length Qa, .slice Q2 y.gone.length Qb, .slice Q3 y.items.length Qc, .string z.name, .bool z.enum, .slice R1 z.fields.length Ra, .slice R2 z.gone.length Rb, .slice R3 z.items.length Rc] 38)
   have hbta := hbt.alloc (.cells #[.string x.name, .bool x.enum, .slice P1 x.fields.length Pa, .slice P2 x.gone.length Pb, .slice P3 x.items.length Pc, .string y.name, .bool y.enum, .slice Q1 y.fields.length Qa, .slice Q2 y.gone.length Qb, .slice Q3 y.items.length Qc, .string z.name, .bool z.enum, .slice R1 z.fields.length Ra, .slice R2 z.gone.length Rb, .slice R3 z.items.length Rc] 38)
   have hba := hb.alloc (B := Z + 1) (by go_light; omega) (.cells #[.string x.name, .bool x.enum, .slice P1 x.fields.length Pa, .slice P2 x.gone.length Pb, .slice P3 x.items.length Pc, .string y.name, .bool y.enum, .slice Q1 y.fields.length Qa, .slice Q2 y.gone.length Qb, .slice Q3 y.items.length Qc, .string z.name, .bool z.enum, .slice R1 z.fields.length Ra, .slice R2 z.gone.length Rb, .slice R3 z.items.length Rc] 38)
   have hvfl := hT.f.form
   have hvgl := hT.g.form
   have hvbl := hT.b.form
   have hvb0 : ∀ g, u17.ownBlock = some g → g < wr.heap.size := fun g h => (hT.b.lt h).2
   clear hx0 hy0 hz0 bx by_ bz b8 bw hka hrs hcall hN hNl hnl hT hbt hb
   go_wp2_with fail
   refine HCN.out.mono ?_
   rintro e w4 ⟨vn, rfl, hrn, hb4⟩
   obtain ⟨An, kn, rfl, hnc, hnb⟩ := hrn.form
   have hT4 := hTa.below hb4
   have hbt4 := hbta.below hb4 hbta.lt
   have hw4 := hba.trans (hb4.mono (by go_light; simp only [World.size_alloc]; omega))
   have hs4 := hb4.size
   simp only [World.size_alloc] at hs4
   obtain ⟨M, hM⟩ : ∃ M, M = wr.heap.size + 1 := ⟨_, rfl⟩
   obtain ⟨M4, hM4⟩ : ∃ M, M = w4.heap.size := ⟨_, rfl⟩
   have hrn2 : RSl 1 8 RInt (fun g => M ≤ g ∧ g < M4) w4 [.slice An N.length kn] N := (RSl.fair RInt.fair).mono hrn (fun g h1 h2 => ⟨by rw [hM]; unfold New at h1; simpa using h1, by rw [hM4]; exact h2⟩)
   have HRN := Lib.hid hrn2
   have hvb1 : ∀ g, u17.ownBlock = some g → ¬ (M ≤ g ∧ g < M4) := fun g h h' => by have := hvb0 g h; omega
   have hMZ : Z + 1 < M := by omega
   have HVB := Lib.hid hvb1
   clear hrn hrn2 hvb1 hvb0 hTa hbta hba hb4 HCN x0 x1 x2 x3 x4 y0 y1 y2 y3 y4 z0 z1 z2 z3 z4 lx ly lz
   go_wp2_with fail
   go_loopw [17, 119] (fun vb j wj => ∃ (q : Nat) (I : List ItemD) (B2 : List FlawD) (vi : Value), j = .int .i64 q ∧ q ≤ N.length ∧ Hid (I = (N.take q).flatMap (itemsAt x y z)) ∧ Hid (B2 = B ++ (N.take q).flatMap (badIt x y z name)) ∧ Hid (I.length ≤ q ∧ B2.length ≤ 30 + q) ∧
     TB (Z + 1 + 1) wj vf vg vi vb F G I B2 ∧ Box wj (Z + 1) 38 [.string name, .bool false, vf, vg, vi] ∧ Hid (∀ g, vi.ownBlock = some g → ¬ (M ≤ g ∧ g < M4)) ∧ Hid (∀ g, vb.ownBlock = some g → ¬ (M ≤ g ∧ g < M4)) ∧ Hid (Keep (fun g => M ≤ g ∧ g < M4) w4 wj) ∧ RowKit.Below (Z + 1) Wd wj) (fun _ j _ => N.length - (intOf j).toNat)
   case atStart => exact ⟨0, [], B, _, rfl, by omega, rfl, (show B = B ++ _ by simp), (show _ ∧ _ by simp; omega), hT4, hbt4, (show ∀ g, Value.ownBlock (.slice none 0 0) = some g → _ by intro g h; cases h), HVB, Keep.refl _ _, hw4⟩
   case round =>
    obtain ⟨q, I, B2, vi, rfl, hq, hI, hB2, hlen, hT, hbt, hvi, hvb, hK, hb⟩ := hrel
    clear hT4 hbt4 hw4
    by_cases hlq : q < N.length
    ·obtain ⟨gn, on, rfl, hSn, hgn⟩ := HRN.out.base (by omega)
     have hcn := (HRN.out.flat (enc := fun x : Int => [.int .i64 x]) hlq).keep hK.out hSn
     obtain ⟨n, hn⟩ : ∃ n, n = N[q] := ⟨_, rfl⟩
     rw [← hn] at hcn
     have q0 : wr.cell? ⟨gn, on + q, none⟩ = some (.int .i64 n) := by have := hcn.at_ 0 rfl; simpa using this
     have hgl : gn < wr.heap.size := World.block_lt_of_cell? _ _ q0
     have Hn := Lib.hid hn
     clear hcn hn
     go_upto_region 20 with fail
     have hvs : Z + 1 ≤ wr.heap.size := by have := hb.size; go_light; omega
     have HV : ∀ W', RowKit.Below wr.heap.size wr W' → RowKit.Below (Z + 1) Wd W' := fun W' h => hb.trans (h.mono hvs)
     have hSK : ∀ W', RowKit.Below wr.heap.size wr W' → (fun W' => (W'.cell? ⟨X, 0, none⟩ = some (.string x.name) ∧ W'.cell? ⟨X, 1, none⟩ = some (.bool x.enum) ∧ W'.cell? ⟨X, 2, none⟩ = some (.slice P1 x.fields.length Pa) ∧ W'.cell? ⟨X, 3, none⟩ = some (.slice P2 x.gone.length Pb) ∧ W'.cell? ⟨X, 4, none⟩ = some (.slice P3 x.items.length Pc)) ∧ (W'.cell? ⟨Y, 0, none⟩ = some (.string y.name) ∧ W'.cell? ⟨Y, 1, none⟩ = some (.bool y.enum) ∧ W'.cell? ⟨Y, 2, none⟩ = some (.slice Q1 y.fields.length Qa) ∧ W'.cell? ⟨Y, 3, none⟩ = some (.slice Q2 y.gone.length Qb) ∧ W'.cell? ⟨Y, 4, none⟩ = some (.slice Q3 y.items.length Qc)) ∧ (W'.cell? ⟨Z, 0, none⟩ = some (.string z.name) ∧ W'.cell? ⟨Z, 1, none⟩ = some (.bool z.enum) ∧ W'.cell? ⟨Z, 2, none⟩ = some (.slice R1 z.fields.length Ra) ∧ W'.cell? ⟨Z, 3, none⟩ = some (.slice R2 z.gone.length Rb) ∧ W'.cell? ⟨Z, 4, none⟩ = some (.slice R3 z.items.length Rc))) W' := fun W' h => ⟨(HALL.out W' (HV W' h)).2.2.2.1.five, (HALL.out W' (HV W' h)).2.2.2.2.1.five, (HALL.out W' (HV W' h)).2.2.2.2.2.1.five⟩
     have HSK := Lib.hid hSK
     have Hf1 := Lib.hid (fun W' (h : RowKit.Below wr.heap.size wr W') => item_any (Old w) _ x n W' (HALL.out W' (HV W' h)).1)
     have Hf2 := Lib.hid (fun W' (h : RowKit.Below wr.heap.size wr W') => item_any (Old w) _ y n W' (HALL.out W' (HV W' h)).2.1)
     have Hf3 := Lib.hid (fun W' (h : RowKit.Below wr.heap.size wr W') => item_any (Old w) _ z n W' (HALL.out W' (HV W' h)).2.2.1)
     have hf4 := fun W' (h : RowKit.Below wr.heap.size wr W') => three_any (itemS x n) (itemS y n) (itemS z n) W'
     obtain ⟨r1, hr1⟩ : ∃ r, r = iT x y z n := ⟨_, rfl⟩
     rw [show threeF (itemS x n) (itemS y n) (itemS z n) = r1 from hr1.symm] at hf4
     obtain ⟨⟨th1, en1, ⟨a1, a2, a3, a4, a5⟩, it1⟩, ok1⟩ := r1
     unfold ThreePost at hf4
     simp only [stCells] at hf4
     have Hf4 := Lib.hid hf4
     have Hr1 := Lib.hid hr1
     clear hSK HV hf4 hr1
     go_cut [25, 26] from 123 to 136 (fun p s W1 => ∃ g, p = .pointer (some ⟨g, 0, none⟩) ∧ s = .bool ok1 ∧ wr.heap.size ≤ g ∧ Box W1 g 45 [.bool th1, .bool en1, .int .i64 a1, .string a2, .string a3, .int .i64 a4, .int .i64 a5, .string it1] ∧ RowKit.Below wr.heap.size wr W1)
     case first =>
      have hB := below_drew (Below.refl wr.heap.size wr)
      have hS := HSK.out _ hB
      refine late_start (fun W' => (W'.cell? ⟨X, 0, none⟩ = some (.string x.name) ∧ W'.cell? ⟨X, 1, none⟩ = some (.bool x.enum) ∧ W'.cell? ⟨X, 2, none⟩ = some (.slice P1 x.fields.length Pa) ∧ W'.cell? ⟨X, 3, none⟩ = some (.slice P2 x.gone.length Pb) ∧ W'.cell? ⟨X, 4, none⟩ = some (.slice P3 x.items.length Pc)) ∧ (W'.cell? ⟨Y, 0, none⟩ = some (.string y.name) ∧ W'.cell? ⟨Y, 1, none⟩ = some (.bool y.enum) ∧ W'.cell? ⟨Y, 2, none⟩ = some (.slice Q1 y.fields.length Qa) ∧ W'.cell? ⟨Y, 3, none⟩ = some (.slice Q2 y.gone.length Qb) ∧ W'.cell? ⟨Y, 4, none⟩ = some (.slice Q3 y.items.length Qc)) ∧ (W'.cell? ⟨Z, 0, none⟩ = some (.string z.name) ∧ W'.cell? ⟨Z, 1, none⟩ = some (.bool z.enum) ∧ W'.cell? ⟨Z, 2, none⟩ = some (.slice R1 z.fields.length Ra) ∧ W'.cell? ⟨Z, 3, none⟩ = some (.slice R2 z.gone.length Rb) ∧ W'.cell? ⟨Z, 4, none⟩ = some (.slice R3 z.items.length Rc))) 15 (by kernel_rfl) ?_
      generalize wr.drew = Wb at hB hS ⊢
      refine tkL 0 hS ?_
      try simp only [pu]
      refine tkL 1 hS ?_
      try simp only [pu]
      refine tkL 3 hS ?_
      try simp only [pu]
      refine tkL 4 hS ?_
      try simp only [pu]
      refine tkL 6 hS ?_
      try simp only [pu]
      refine tkL 7 hS ?_
      try simp only [pu]
      refine late_two (i := 2) (j := 13) rfl rfl (by kernel_rfl) (fun K hK => ?_) (fun K hK => ?_)
      rotate_left
      go_simp
      have hG := newState hB
      have hGl := hB.size
      try simp only [drew_size] at hG hGl
      replace hB := hB.alloc hB.size (.cells #[.bool false, .bool false, .int .i64 0, .string ⟨#[]⟩, .string ⟨#[]⟩, .int .i64 0, .int .i64 0, .string ⟨#[]⟩] 45)
      clear hS
      have hS := HSK.out _ hB
      refine hK.out _ _ (fun _ => hS) ?_
      clear hK K
      try simp only [pu]
      generalize (World.alloc _ (.cells #[.bool false, .bool false, .int .i64 0, .string ⟨#[]⟩, .string ⟨#[]⟩, .int .i64 0, .int .i64 0, .string ⟨#[]⟩] 45)) = WW at hB hG hS ⊢
      refine late_one (i := 2) rfl (by kernel_rfl) (fun K hK => ?_)
      all_goals
       go_simp
       refine (Hf1.out _ hB).mono ?_
       rintro e wn ⟨rfl, hbn⟩
       replace hB := below_via hB hbn hB.size
       try replace hG := hG.below hbn hG.lt
       clear hS hbn
       have hS := HSK.out _ hB
       refine hK.out _ _ (fun _ => hS) ?_
       clear hK K
       try simp only [pu]
      refine late_one (i := 5) rfl (by kernel_rfl) (fun K hK => ?_)
      rotate_left
      refine late_two (i := 5) (j := 13) rfl rfl (by kernel_rfl) (fun K hK => ?_) (fun K hK => ?_)
      rotate_left
      go_simp
      have hG := newState hB
      have hGl := hB.size
      try simp only [drew_size] at hG hGl
      replace hB := hB.alloc hB.size (.cells #[.bool false, .bool false, .int .i64 0, .string ⟨#[]⟩, .string ⟨#[]⟩, .int .i64 0, .int .i64 0, .string ⟨#[]⟩] 45)
      clear hS
      have hS := HSK.out _ hB
      refine hK.out _ _ (fun _ => hS) ?_
      clear hK K
      try simp only [pu]
      generalize (World.alloc _ (.cells #[.bool false, .bool false, .int .i64 0, .string ⟨#[]⟩, .string ⟨#[]⟩, .int .i64 0, .int .i64 0, .string ⟨#[]⟩] 45)) = WW at hB hG hS ⊢
      refine late_one (i := 5) rfl (by kernel_rfl) (fun K hK => ?_)
      all_goals
       go_simp
       refine (Hf2.out _ hB).mono ?_
       rintro e wn ⟨rfl, hbn⟩
       replace hB := below_via hB hbn hB.size
       try replace hG := hG.below hbn hG.lt
       clear hS hbn
       have hS := HSK.out _ hB
       refine hK.out _ _ (fun _ => hS) ?_
       clear hK K
       try simp only [pu]
      iterate 2
       refine late_one (i := 8) rfl (by kernel_rfl) (fun K hK => ?_)
       rotate_left
      refine late_two (i := 8) (j := 13) rfl rfl (by kernel_rfl) (fun K hK => ?_) (fun K hK => ?_)
      rotate_left
      go_simp
      have hG := newState hB
      have hGl := hB.size
      try simp only [drew_size] at hG hGl
      replace hB := hB.alloc hB.size (.cells #[.bool false, .bool false, .int .i64 0, .string ⟨#[]⟩, .string ⟨#[]⟩, .int .i64 0, .int .i64 0, .string ⟨#[]⟩] 45)
      clear hS
      have hS := HSK.out _ hB
      refine hK.out _ _ (fun _ => hS) ?_
      clear hK K
      try simp only [pu]
      generalize (World.alloc _ (.cells #[.bool false, .bool false, .int .i64 0, .string ⟨#[]⟩, .string ⟨#[]⟩, .int .i64 0, .int .i64 0, .string ⟨#[]⟩] 45)) = WW at hB hG hS ⊢
      refine late_one (i := 8) rfl (by kernel_rfl) (fun K hK => ?_)
      all_goals
       go_simp
       refine (Hf3.out _ hB).mono ?_
       rintro e wn ⟨rfl, hbn⟩
       replace hB := below_via hB hbn hB.size
       try replace hG := hG.below hbn hG.lt
       clear hS hbn
       have hS := HSK.out _ hB
       refine hK.out _ _ (fun _ => hS) ?_
       clear hK K
       try simp only [pu]
      iterate 3
       refine late_one (i := 9) rfl (by kernel_rfl) (fun K hK => ?_)
       rotate_left
      refine late_two (i := 9) (j := 13) rfl rfl (by kernel_rfl) (fun K hK => ?_) (fun K hK => ?_)
      rotate_left
      go_simp
      have hG := newState hB
      have hGl := hB.size
      try simp only [drew_size] at hG hGl
      replace hB := hB.alloc hB.size (.cells #[.bool false, .bool false, .int .i64 0, .string ⟨#[]⟩, .string ⟨#[]⟩, .int .i64 0, .int .i64 0, .string ⟨#[]⟩] 45)
      clear hS
      have hS := HSK.out _ hB
      refine hK.out _ _ (fun _ => hS) ?_
      clear hK K
      try simp only [pu]
      generalize (World.alloc _ (.cells #[.bool false, .bool false, .int .i64 0, .string ⟨#[]⟩, .string ⟨#[]⟩, .int .i64 0, .int .i64 0, .string ⟨#[]⟩] 45)) = WW at hB hG hS ⊢
      refine late_one (i := 9) rfl (by kernel_rfl) (fun K hK => ?_)
      all_goals
       go_simp
       refine (Hf4.out _ hB).mono ?_
       rintro e wn ⟨rfl, hbn⟩
       replace hB := below_via hB hbn hB.size
       try replace hG := hG.below hbn hG.lt
       clear hS hbn
       have hS := HSK.out _ hB
       refine hK.out _ _ (fun _ => hS) ?_
       clear hK K
       try simp only [pu]
       refine tkL 10 hS ?_
       try simp only [pu]
       refine tkL 11 hS ?_
       try simp only [pu]
       refine tkL 12 hS ?_
       try simp only [pu]
      rotate_right
      refine late_one (i := 13) rfl (by kernel_rfl) (fun K hK => ?_)
      go_simp
      have hG := newState hB
      have hGl := hB.size
      try simp only [drew_size] at hG hGl
      replace hB := hB.alloc hB.size (.cells #[.bool false, .bool false, .int .i64 0, .string ⟨#[]⟩, .string ⟨#[]⟩, .int .i64 0, .int .i64 0, .string ⟨#[]⟩] 45)
      clear hS
      have hS := HSK.out _ hB
      refine hK.out _ _ (fun _ => hS) ?_
      clear hK K
      try simp only [pu]
      generalize (World.alloc _ (.cells #[.bool false, .bool false, .int .i64 0, .string ⟨#[]⟩, .string ⟨#[]⟩, .int .i64 0, .int .i64 0, .string ⟨#[]⟩] 45)) = WW at hB hG hS ⊢
      all_goals
       obtain ⟨r0, r1, r2, r3, r4, r5, r6, r7⟩ := hG.eight
       have g0 := hG.frozen 0
       have g1 := hG.frozen 1
       have g2 := hG.frozen 2
       have g3 := hG.frozen 3
       have g4 := hG.frozen 4
       have g5 := hG.frozen 5
       have g6 := hG.frozen 6
       have g7 := hG.frozen 7
       have hlr := hG.lt
       refine late_one (i := 14) rfl (by kernel_rfl) (fun K hK => ?_)
       go_simp
       clear r0 r1 r2 r3 r4 r5 r6 r7 g0 g1 g2 g3 g4 g5 g6 g7
       replace hB := below_setCells hGl [.bool th1, .bool en1, .int .i64 a1, .string a2, .string a3, .int .i64 a4, .int .i64 a5, .string it1] 0 _ hB
       replace hG := hG.setCells [.bool th1, .bool en1, .int .i64 a1, .string a2, .string a3, .int .i64 a4, .int .i64 a5, .string it1] rfl
       clear hS hlr
       change K _ (setCells _ _ 0 [.bool th1, .bool en1, .int .i64 a1, .string a2, .string a3, .int .i64 a4, .int .i64 a5, .string it1])
       generalize setCells _ _ 0 [.bool th1, .bool en1, .int .i64 a1, .string a2, .string a3, .int .i64 a4, .int .i64 a5, .string it1] = W5 at hB hG ⊢
       have hS := HSK.out _ hB
       refine hK.out _ _ (fun _ => hS) ?_
       clear hK K
       try simp only [pu]
       refine late_one (i := 15) rfl (by kernel_rfl) (fun K hK => ?_)
       go_simp
       refine hK.out _ _ (fun h => absurd h (by decide)) ?_
       clear hK K
       try simp only [pu]
       refine late_done (by kernel_rfl) ?_ _
       go_wp2_with fail
       go_meet
       case rel => exact ⟨_, rfl, rfl, hGl, hG, hB⟩
     case rest =>
      clear HSK Hf1 Hf2 Hf3 Hf4
      obtain ⟨p1, rfl, rfl, hp1, hG1, hb1⟩ := hcut
      obtain ⟨V2, hV2⟩ : ∃ V, V = wc := ⟨_, rfl⟩
      subst hV2
      have hbV2 := hb.trans (hb1.mono hvs)
      have hT2 := hT.below hb1
      have hbt2 := hbt.below hb1 hbt.lt
      have hK2 := hK.out.trans (Keep.of_below hb1)
      have hsz2 := hbV2.size
      have hM2 : M4 ≤ V2.heap.size := by rw [hM4]; exact hK2.1
      have HK := Lib.hid hK2
      have hMZ2 := hMZ
      clear hT hbt hb hb1 hK hK2
      obtain ⟨Si, ci, rfl, hci⟩ := hT2.i.form
      obtain ⟨Sb, cb, rfl, hcb⟩ := hT2.b.form
      have n0 : V2.cell? ⟨p1, 0, none⟩ = some (.bool th1) := hG1.cell 0
      have n7 : V2.cell? ⟨p1, 7, none⟩ = some (.string it1) := hG1.cell 7
      have hln := hG1.lt
      have t4 : V2.cell? ⟨Z + 1, 4, none⟩ = some (.slice Si I.length ci) := hbt2.cell 4
      have hlt2 := hbt2.lt
      have f4 := hbt2.frozen 4
      have hlI : I.length ≤ q := hlen.out.1
      have hlB2 : B2.length ≤ 30 + q := hlen.out.2
      have hnl2 : N.length ≤ 300 := HNL.out
      clear hG1 hlen
      have hst1 := take_step N (itemsAt x y z) hlq
      have hst2 := take_step N (badIt x y z name) hlq
      rw [← Hn.out] at hst1 hst2
      cases ok1
      ·obtain ⟨e1, e2⟩ := it_bad (name := name) Hr1.out
       have HI2 := Lib.hid (show I = (N.take (q + 1)).flatMap (itemsAt x y z) by rw [hst1, e1, List.append_nil]; exact hI.out)
       have HB2 := Lib.hid (show B2 ++ [⟨name, n, 0⟩] = B ++ (N.take (q + 1)).flatMap (badIt x y z name) by rw [hst2, e2, ← List.append_assoc, ← hB2.out])
       clear hst1 hst2 e1 e2 hI hB2 Hr1
       go_wp2_with (at_builtin; go_must (refine wl_append _ rfl (.tmp 138) (.tmp 142) rfl sl_flaws RFlaw.fair rfl rfl (hT2.b.alloc RFlaw.fair _) (Src.one (es := [.string name, .int .i64 n, .int .i64 0]) (y := FlawD.mk name n 0) rfl (Ones.of_all rfl) rfl (Lies.newAt (by first | rfl | simp [World.setCell]))) (NoT.lt _) ?_ ?_ ?_))
       ·go_light; (try simp only [List.length_cons, List.length_nil]); omega
       ·go_light; simp only [World.size_alloc]; omega
       ·intro v6 w6 ho6 hg6 hv6
        have hT6 := (hT2.alloc _).pushB hg6 ho6
        have hbt6 := (hbt2.alloc _).grownR (hT2.b.alloc RFlaw.fair _) (.inl (by go_light; omega)) hg6
        have hb6 := below_grown (hbV2.alloc (by go_light; omega) (.cells #[.string name, .int .i64 n, .int .i64 0] 50)) hg6 (by go_light; simp only [World.size_alloc]; omega) (fun g' h => by have := (hT2.b.lt h).1; go_light; omega)
        have hK6 := (HK.out.trans (Keep.alloc _ V2 (.cells #[.string name, .int .i64 n, .int .i64 0] 50))).trans (Keep.of_grown hg6 hvb.out)
        have hv7 : ∀ g, v6.ownBlock = some g → ¬ (M ≤ g ∧ g < M4) := fun g h => by
         rcases hv6 with h' | h'
         ·exact hvb.out g (h' ▸ h)
         ·rw [h'] at h; injection h with h; (try simp only [World.size_alloc] at h); omega
        have HV7 := Lib.hid hv7
        have HK6 := Lib.hid hK6
        clear hv7 hK6
        go_wp2_with fail
        go_roundw
        case rel => exact ⟨q + 1, I, B2 ++ [⟨name, n, 0⟩], _, by go_num, by omega, HI2, HB2, (show _ ∧ _ by refine ⟨?_, ?_⟩ <;> (try simp only [List.length_append, List.length_cons, List.length_nil]) <;> omega), hT6, hbt6, hvi, HV7, HK6, hb6⟩
        case measure => simp [intOf]; omega
      ·cases th1
       ·obtain ⟨e1, e2⟩ := it_none (name := name) Hr1.out rfl
        have HI2 := Lib.hid (show I = (N.take (q + 1)).flatMap (itemsAt x y z) by rw [hst1, e1, List.append_nil]; exact hI.out)
        have HB2 := Lib.hid (show B2 = B ++ (N.take (q + 1)).flatMap (badIt x y z name) by rw [hst2, e2, List.append_nil]; exact hB2.out)
        clear hst1 hst2 e1 e2 hI hB2 Hr1
        go_wp2_with fail
        go_roundw
        case rel => exact ⟨q + 1, I, B2, _, by go_num, by omega, HI2, HB2, (show _ ∧ _ by refine ⟨?_, ?_⟩ <;> omega), hT2, hbt2, hvi, hvb, HK, hbV2⟩
        case measure => simp [intOf]; omega
       ·obtain ⟨e1, e2⟩ := it_item (name := name) Hr1.out rfl
        dsimp only at e1
        have HI2 := Lib.hid (show I ++ [⟨it1, n⟩] = (N.take (q + 1)).flatMap (itemsAt x y z) by rw [hst1, e1, ← hI.out])
        have HB2 := Lib.hid (show B2 = B ++ (N.take (q + 1)).flatMap (badIt x y z name) by rw [hst2, e2, List.append_nil]; exact hB2.out)
        clear hst1 hst2 e1 e2 hI hB2 Hr1
        go_wp2_with (at_builtin; go_must (refine wl_append _ rfl (.tmp 147) (.tmp 152) rfl sl_items RItem.fair rfl rfl (hT2.i.alloc RItem.fair _) (Src.one (es := [.string it1, .int .i64 n]) (y := ItemD.mk it1 n) rfl (Ones.of_all rfl) rfl (Lies.newAt (by first | rfl | simp [World.setCell]))) (NoT.lt _) ?_ ?_ ?_))
        ·go_light; (try simp only [List.length_cons, List.length_nil]); omega
        ·go_light; simp only [World.size_alloc]; omega
        ·intro v6 w6 ho6 hg6 hv6
         obtain ⟨A6, c6, rfl, -⟩ := ho6.form
         simp only [List.length_append, List.length_cons, List.length_nil, Nat.zero_add] at ho6 hv6
         have hT6 := (hT2.alloc _).pushI hg6 ho6
         have hbt6 := (hbt2.alloc _).grownR (hT2.i.alloc RItem.fair _) (.inl (by go_light; omega)) hg6
         have hb6 := below_grown (hbV2.alloc (by go_light; omega) (.cells #[.string it1, .int .i64 n] 62)) hg6 (by go_light; simp only [World.size_alloc]; omega) (fun g' h => by have := (hT2.i.lt h).1; go_light; omega)
         have hK6 := ((HK.out.trans (Keep.alloc _ V2 (.cells #[.string it1, .int .i64 n] 62))).trans (Keep.of_grown hg6 hvi.out)).trans (Keep.setCell w6 (a := ⟨Z + 1, 4, none⟩) (.slice A6 (I.length + 1) c6) (by show ¬ (M ≤ Z + 1 ∧ _); omega))
         have hv7 : ∀ g, (Value.slice A6 (I.length + 1) c6).ownBlock = some g → ¬ (M ≤ g ∧ g < M4) := fun g h => by
          rcases hv6 with h' | h'
          ·exact hvi.out g (h' ▸ h)
          ·rw [h'] at h; injection h with h; (try simp only [World.size_alloc] at h); omega
         have HV7 := Lib.hid hv7
         have HK6 := Lib.hid hK6
         clear t4 f4 hlt2 n0 n7 hln hT2 hbt2 hv7 hK6
         have t4 : w6.cell? ⟨Z + 1, 4, none⟩ = some (.slice Si I.length ci) := hbt6.cell 4
         have f4 := hbt6.frozen 4
         have hlt6 := hbt6.lt
         go_wp2_with fail
         go_roundw
         case rel =>
          have hbt7 := hbt6.set_ 4 (.slice A6 (I.length + 1) c6)
          simp only [List.set_cons_zero, List.set_cons_succ] at hbt7
          exact ⟨q + 1, I ++ [⟨it1, n⟩], B2, _, by go_num, by omega, HI2, HB2, (show _ ∧ _ by refine ⟨?_, ?_⟩ <;> (try simp only [List.length_append, List.length_cons, List.length_nil]) <;> omega), hT6.setCell (p := ⟨Z + 1, 4, none⟩) (.slice A6 (I.length + 1) c6) (by go_light; show Z + 1 < _; omega), hbt7, HV7, hvb, HK6, hb6.setCell (p := ⟨Z + 1, 4, none⟩) (Nat.le_refl _) _⟩
         case measure => simp [intOf]; omega
    ·have hqe : q = N.length := by omega
     subst hqe
     have hI2 := hI.out
     have hBB := hB2.out
     rw [List.take_length] at hI2 hBB
     have hfr2 : fr = ⟨name, false, F, G, I⟩ := by rw [Hfr.out]; unfold typesT; rw [← HN.out, ← HF.out, ← HG.out, ← hI2]
     have hlr2 : lr = B2 := by rw [Hlr.out]; unfold typesL; rw [← HN.out, ← HBd.out]; exact hBB.symm
     have hnl2 : N.length ≤ 300 := HNL.out
     have hlI : I.length ≤ N.length := hlen.out.1
     have hlB2 : B2.length ≤ 30 + N.length := hlen.out.2
     have rf := hT.f.read (S := fun g => Z + 1 + 1 ≤ g) (by_ := 56) RField.fair (fun _ h => h.elim) (fun k hk => (hT.f.lt hk).1) (by omega)
     have rg := hT.g.read (S := fun g => Z + 1 + 1 ≤ g) (by_ := 8) RInt.fair (fun _ h => h.elim) (fun k hk => (hT.g.lt hk).1) (by omega)
     have ri := hT.i.read (S := fun g => Z + 1 + 1 ≤ g) (by_ := 24) RItem.fair (fun _ h => h.elim) (fun k hk => (hT.i.lt hk).1) (by omega)
     have rb := hT.b.read (S := fun g => Z + 1 + 1 ≤ g) (by_ := 32) RFlaw.fair (fun _ h => h.elim) (fun k hk => (hT.b.lt hk).1) (by omega)
     obtain ⟨Df, df, rfl, -⟩ := hT.f.form
     obtain ⟨Dg, dg, rfl, -⟩ := hT.g.form
     obtain ⟨Di, di, rfl, -⟩ := hT.i.form
     obtain ⟨Db, db, rfl, -⟩ := hT.b.form
     have b8 := (HALL.out wr hb).2.2.2.2.2.2
     have hkp : Keep (fun g => Z + 1 + 1 ≤ g) wr (setCells wr g8 0 [.string name, .bool false, .slice Df F.length df, .slice Dg G.length dg, .slice Di I.length di]) := Keep.setCells (by show ¬ (Z + 1 + 1 ≤ g8); omega) _ 0 wr
     have h9 := b8.setCells [.string name, .bool false, .slice Df F.length df, .slice Dg G.length dg, .slice Di I.length di] rfl
     have hwf : RowKit.Below w.heap.size w (setCells wr g8 0 [.string name, .bool false, .slice Df F.length df, .slice Dg G.length dg, .slice Di I.length di]) := below_setCells (g := g8) (by omega) _ 0 wr (hwd.trans (hb.mono (by omega)))
     have hnew : ∀ g, Z + 1 + 1 ≤ g → g < (setCells wr g8 0 [.string name, .bool false, .slice Df F.length df, .slice Dg G.length dg, .slice Di I.length di]).heap.size → New w g := fun g h _ => by unfold New; omega
     have hpost : RType (New w) (setCells wr g8 0 [.string name, .bool false, .slice Df F.length df, .slice Dg G.length dg, .slice Di I.length di]) [.string name, .bool false, .slice Df F.length df, .slice Dg G.length dg, .slice Di I.length di] fr := by
      rw [hfr2]
      exact ⟨_, _, _, rfl, (RSl.fair RField.fair).mono ((RSl.fair RField.fair).keep rf hkp) hnew, (RSl.fair RInt.fair).mono ((RSl.fair RInt.fair).keep rg hkp) hnew, (RSl.fair RItem.fair).mono ((RSl.fair RItem.fair).keep ri hkp) hnew⟩
     have hpostb : RSl 3 32 RFlaw (New w) (setCells wr g8 0 [.string name, .bool false, .slice Df F.length df, .slice Dg G.length dg, .slice Di I.length di]) [.slice Db B2.length db] lr := by
      rw [hlr2]
      exact (RSl.fair RFlaw.fair).mono ((RSl.fair RFlaw.fair).keep rb hkp) hnew
     have HP := Lib.hid hpost
     have HPB := Lib.hid hpostb
     have HW := Lib.hid hwf
     have H9 := Lib.hid h9
     obtain ⟨c0, c1, c2, c3, c4⟩ := b8.five
     have f0 := b8.frozen 0
     have f1 := b8.frozen 1
     have f2 := b8.frozen 2
     have f3 := b8.frozen 3
     have f4 := b8.frozen 4
     obtain ⟨t0, t1, t2, t3, t4⟩ := hbt.five
     have hl8w := b8.lt
     have hltw := hbt.lt
     clear hpost hpostb hwf h9 hkp hnew rf rg ri rb b8 hbt hT hfr2 hlr2 hI2 hBB hI hB2 hlen hvi hvb hK hb
     go_wp2_with fail
     change bodyPost _ _ _ _ _ (setCells wr g8 0 [.string name, .bool false, .slice Df F.length df, .slice Dg G.length dg, .slice Di I.length di])
     exact bodyPost_ret (types_results H9.out rfl rfl) rfl ⟨_, _, rfl, HP.out, HPB.out, HW.out⟩
end Go.Proofs.YtihdnjnhhhafkaaGreatDoor
