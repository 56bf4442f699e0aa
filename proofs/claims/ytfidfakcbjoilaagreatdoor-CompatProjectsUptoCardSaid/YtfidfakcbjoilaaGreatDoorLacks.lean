/- The walks of compat.both, compat.lacks. -/
import Derived.Test.YtfidfakcbjoilaaGreatDoorPairs
import Derived.Test.YtfidfakcbjoilaaGreatDoorValueTypedF
set_option linter.all false
set_option maxRecDepth 100000
set_option maxHeartbeats 8000000
namespace Go.Proofs.YtfidfakcbjoilaaGreatDoor
open Go.RowKit
theorem both_any (S : Nat → Prop) (vw vr : Value) (bw br : BookD) (name : ByteArray) (w : World) (hb1 : RSl 5 96 RType S w [vw] bw) (hb2 : RSl 5 96 RType S w [vr] br) (hW : Words w) (o1 : BookOk bw) (o2 : BookOk br) :
  Calls Tryz.prog 15 #[.agg #[vw], .agg #[vr], .string name] w (Ret w (.int .i64 (bothF bw br name))) := by
 obtain ⟨AW, cw, rfl, -, -⟩ := hb1.form
 obtain ⟨AR, cr, rfl, -, -⟩ := hb2.form
 obtain ⟨x1, x2, x3⟩ := boxes2 w [.slice AW bw.length cw] [.slice AR br.length cr] 24 24
 have g1 := Lib.hid (fun W (h : Below w.heap.size w W) => good_any S _ bw W ((RSl.fair RType.fair).below hb1 h) (hW.below h) o1)
 have g2 := Lib.hid (fun W (h : Below w.heap.size w W) => good_any S _ br W ((RSl.fair RType.fair).below hb2 h) (hW.below h) o2)
 have f1 := Lib.hid (fun W (h : Below w.heap.size w W) => find_any S _ bw name W ((RSl.fair RType.fair).below hb1 h))
 have f2 := Lib.hid (fun W (h : Below w.heap.size w W) => find_any S _ br name W ((RSl.fair RType.fair).below hb2 h))
 obtain ⟨p, hp⟩ : ∃ p, p = bothF bw br name := ⟨_, rfl⟩
 have Hp : Hid (p = if goodF bw ≠ 0 ∨ goodF br ≠ 0 then 1 else if noneB bw name = true ∨ noneB br name = true then 3 else 0) := hp
 rw [← hp]
 have z1 := x1.cell 0
 have z2 := x2.cell 0
 have l1 := x1.lt
 have l2 := x2.lt
 clear hb1 hb2 hW o1 o2 hp
 go_enter Tryz.func15, Tryz.ntmps15
 go_wp2_with fail
 refine (g1.out _ x3).mono ?_
 rintro e w1 ⟨rfl, hb1⟩
 have y1 := x1.below hb1 x1.lt
 have y2 := x2.below hb1 x2.lt
 have hG1 := below_via x3 hb1 x3.size
 clear z1 z2 l1 l2 x1 x2 x3 hb1
 have z1 := y1.cell 0
 have z2 := y2.cell 0
 have l1 := y1.lt
 have l2 := y2.lt
 obtain ⟨a, ha⟩ : ∃ a, a = goodF bw := ⟨_, rfl⟩
 obtain ⟨b, hb⟩ : ∃ a, a = goodF br := ⟨_, rfl⟩
 rw [← ha, ← hb] at Hp
 rw [← hb] at g2
 rw [← ha]
 clear ha hb
 by_cases h1 : a = 0
 ·subst h1
  go_wp2_with fail
  refine (g2.out _ hG1).mono ?_
  rintro e w2 ⟨rfl, hb2⟩
  have u1 := y1.below hb2 y1.lt
  have u2 := y2.below hb2 y2.lt
  have hG2 := below_via hG1 hb2 hG1.size
  clear z1 z2 l1 l2 y1 y2 hG1 hb2
  have z1 := u1.cell 0
  have z2 := u2.cell 0
  have l1 := u1.lt
  have l2 := u2.lt
  by_cases h2 : b = 0
  ·subst h2
   have Hp2 : Hid (p = if noneB bw name = true ∨ noneB br name = true then 3 else 0) := by show _ = _; rw [Hp.out, if_neg (by simp)]
   clear Hp
   go_wp2_with fail
   refine (f1.out _ hG2).mono ?_
   rintro e w3 ⟨cs1, rfl, hr1, hb3⟩
   obtain ⟨t1, ht1⟩ : ∃ t, t = (findT bw name).getD .zero := ⟨_, rfl⟩
   obtain ⟨s1, hs1⟩ : ∃ t, t = (findT bw name).isSome := ⟨_, rfl⟩
   rw [← ht1] at hr1
   rw [← hs1]
   obtain ⟨P1, p1, P2, p2, P3, p3, rfl, -, -, -⟩ := hr1.parts
   have v1 := (u2.below hb3 u2.lt).alloc (.cells [Value.string t1.name, .bool t1.enum, .slice P1 t1.fields.length p1, .slice P2 t1.gone.length p2, .slice P3 t1.items.length p3].toArray 46)
   have hG3 := (below_via hG2 hb3 hG2.size).alloc (below_via hG2 hb3 hG2.size).size (.cells [Value.string t1.name, .bool t1.enum, .slice P1 t1.fields.length p1, .slice P2 t1.gone.length p2, .slice P3 t1.items.length p3].toArray 46)
   have k1 := Box.new w3 46 [.string t1.name, .bool t1.enum, .slice P1 t1.fields.length p1, .slice P2 t1.gone.length p2, .slice P3 t1.items.length p3]
   have e1 := Lib.hid (show noneB bw name = (!s1 || t1.enum) by rw [hs1, ht1, noneB_eq]; rfl)
   clear z1 z2 l1 l2 u1 u2 hG2 hr1 hb3 ht1 hs1
   have z2 := v1.cell 0
   have l2 := v1.lt
   go_upto_region 4 with fail
   generalize w3.heap.size = Y1 at k1 ⊢
   generalize (World.alloc w3 _) = w4 at v1 hG3 k1 z2 l2 ⊢
   go_wp2_with fail
   refine (f2.out _ hG3).mono ?_
   rintro e w5 ⟨cs2, rfl, hr2, hb5⟩
   obtain ⟨t2, ht2⟩ : ∃ t, t = (findT br name).getD .zero := ⟨_, rfl⟩
   obtain ⟨s2, hs2⟩ : ∃ t, t = (findT br name).isSome := ⟨_, rfl⟩
   rw [← ht2] at hr2
   rw [← hs2]
   obtain ⟨Q1, q1, Q2, q2, Q3, q3, rfl, -, -, -⟩ := hr2.parts
   have k1' := (k1.below hb5 k1.lt).alloc (.cells [Value.string t2.name, .bool t2.enum, .slice Q1 t2.fields.length q1, .slice Q2 t2.gone.length q2, .slice Q3 t2.items.length q3].toArray 46)
   have hG5 := (below_via hG3 hb5 hG3.size).alloc (below_via hG3 hb5 hG3.size).size (.cells [Value.string t2.name, .bool t2.enum, .slice Q1 t2.fields.length q1, .slice Q2 t2.gone.length q2, .slice Q3 t2.items.length q3].toArray 46)
   have k2 := Box.new w5 46 [.string t2.name, .bool t2.enum, .slice Q1 t2.fields.length q1, .slice Q2 t2.gone.length q2, .slice Q3 t2.items.length q3]
   have e2 := Lib.hid (show noneB br name = (!s2 || t2.enum) by rw [hs2, ht2, noneB_eq]; rfl)
   clear z2 l2 v1 hG3 k1 hr2 hb5 ht2 hs2
   have Hp3 : Hid (p = if (!s1 || t1.enum) = true ∨ (!s2 || t2.enum) = true then 3 else 0) := by show _ = _; rw [Hp2.out, e1.out, e2.out]
   clear Hp2 e1 e2
   go_upto_region 5 with fail
   generalize w5.heap.size = Y2 at k2 ⊢
   generalize (World.alloc w5 _) = w6 at k1' hG5 k2 ⊢
   have m1 : w6.cell? ⟨Y1, 1, none⟩ = some (.bool t1.enum) := k1'.cell 1
   have m2 : w6.cell? ⟨Y2, 1, none⟩ = some (.bool t2.enum) := k2.cell 1
   have n1 := k1'.lt
   have n2 := k2.lt
   clear k1' k2
   obtain ⟨b1, hb1⟩ : ∃ b1, b1 = t1.enum := ⟨_, rfl⟩
   obtain ⟨b2, hb2⟩ : ∃ b1, b1 = t2.enum := ⟨_, rfl⟩
   rw [← hb1, ← hb2] at Hp3
   rw [← hb1] at m1 ⊢
   rw [← hb2] at m2 ⊢
   clear hb1 hb2
   cases s1 <;> cases s2 <;> cases b1 <;> cases b2 <;> (go_wp2_with fail; go_ret; exact ⟨by rw [Hp3.out]; rfl, hG5⟩)
  ·have Hp2 : Hid (p = 1) := by show _ = _; rw [Hp.out, if_pos (.inr h2)]
   clear Hp u1 u2
   go_wp2_with fail
   go_ret
   exact ⟨by rw [Hp2.out]; rfl, hG2⟩
 ·have Hp2 : Hid (p = 1) := by show _ = _; rw [Hp.out, if_pos (.inl h1)]
  clear Hp y1 y2
  go_wp2_with fail
  go_ret
  exact ⟨by rw [Hp2.out]; rfl, hG1⟩
def okT (g : FieldD) (tz : TypeD) (n : Int) : Bool := if g.kind = 1 then decide (n = 0 ∨ n = 1) else if g.kind = 4 then meansF tz n else true
theorem lacksOne_any (S : Nat → Prop) (G Y : Nat) (gi gk gr : Int) (gn gt : ByteArray) (tz : TypeD) (R1 R2 R3 : Option Addr) (r1 r2 r3 : Nat) (n : Int) (w : World) (hg : Box w G 55 [.int .i64 gi, .string gn, .string gt, .int .i64 gk, .int .i64 gr]) (hY : Box w Y 46 [.string tz.name, .bool tz.enum, .slice R1 tz.fields.length r1, .slice R2 tz.gone.length r2, .slice R3 tz.items.length r3]) (ht : RType S w [.string tz.name, .bool tz.enum, .slice R1 tz.fields.length r1, .slice R2 tz.gone.length r2, .slice R3 tz.items.length r3] tz) :
  Calls Tryz.prog 65 #[.int .i64 n, .pointer (some ⟨G, 0, none⟩), .pointer (some ⟨Y, 0, none⟩)] w (Ret w (.bool (okT ⟨gi, gn, gt, gk, gr⟩ tz n))) := by
 obtain ⟨p, hp⟩ : ∃ p, p = okT ⟨gi, gn, gt, gk, gr⟩ tz n := ⟨_, rfl⟩
 have Hp : Hid (p = if gk = 1 then decide (n = 0 ∨ n = 1) else if gk = 4 then meansF tz n else true) := hp
 rw [← hp]
 have hm := Lib.hid (means_any S _ tz n w ht)
 have c3 : w.cell? ⟨G, 3, none⟩ = some (.int .i64 gk) := hg.cell 3
 have gl := hg.lt
 obtain ⟨y0, y1, y2, y3, y4⟩ := hY.five
 have yl := hY.lt
 clear hp hg hY ht
 by_cases h1 : gk = 1
 ·subst h1
  have Hp2 : Hid (p = decide (n = 0 ∨ n = 1)) := by show _ = _; rw [Hp.out, if_pos rfl]
  clear Hp
  by_cases h0 : n = 0
  ·subst h0
   go_enter Tryz.func65, Tryz.ntmps65
   go_wp2_with fail
   go_ret
   exact ⟨by rw [Hp2.out]; rfl, Below.here w⟩
  ·by_cases h2 : n = 1
   ·subst h2
    go_enter Tryz.func65, Tryz.ntmps65
    go_wp2_with fail
    go_ret
    exact ⟨by rw [Hp2.out]; rfl, Below.here w⟩
   ·have Hp3 : Hid (p = false) := by show _ = _; rw [Hp2.out]; exact decide_eq_false (by omega)
    clear Hp2
    go_enter Tryz.func65, Tryz.ntmps65
    go_wp2_with fail
    go_ret
    exact ⟨by rw [Hp3.out]; simp [h0, h2], Below.here w⟩
 ·by_cases h4 : gk = 4
  ·subst h4
   have Hp2 : Hid (p = meansF tz n) := by show _ = _; rw [Hp.out, if_neg (by decide), if_pos rfl]
   clear Hp h1
   go_enter Tryz.func65, Tryz.ntmps65
   go_wp2_with fail
   refine hm.out.mono ?_
   rintro e w1 ⟨rfl, hb1⟩
   go_wp2_with fail
   go_ret
   exact ⟨by rw [Hp2.out]; rfl, hb1⟩
  ·have Hp2 : Hid (p = true) := by show _ = _; rw [Hp.out, if_neg h1, if_neg h4]
   clear Hp
   go_enter Tryz.func65, Tryz.ntmps65
   go_wp2_with fail
   go_ret
   exact ⟨by rw [Hp2.out]; rfl, Below.here w⟩
theorem sl_intsC : SlInfo Tryz.prog 34 3 1 8 := SlInfo.mk (z := .int .i64 0) Tryz.underlying34 (by decide) (by decide) (by kernel_rfl) rfl
def sevenL : List Int := [0, 1, 2, 3, 4, 5, 6]
theorem seven_step {k : Nat} (h : k < 7) : sevenL.take (k + 1) = sevenL.take k ++ [(k : Int)] := by
 have : k = 0 ∨ k = 1 ∨ k = 2 ∨ k = 3 ∨ k = 4 ∨ k = 5 ∨ k = 6 := by omega
 rcases this with rfl | rfl | rfl | rfl | rfl | rfl | rfl <;> rfl
def LacksPost (w : World) (r : Option Int) (e : Ending) (w' : World) : Prop := e = .returned (.tuple #[.int .i64 (r.getD 0), .bool r.isSome]) ∧ Below w.heap.size w w'
theorem lacks_any (S : Nat → Prop) (vw vr : Value) (bw br : BookD) (fi fk fr gi gk gr : Int) (fn ft gn gt : ByteArray) (w : World) (hb1 : RSl 5 96 RType S w [vw] bw) (hb2 : RSl 5 96 RType S w [vr] br) :
  Calls Tryz.prog 40 #[.agg #[vw], .agg #[vr], .agg #[.int .i64 fi, .string fn, .string ft, .int .i64 fk, .int .i64 fr], .agg #[.int .i64 gi, .string gn, .string gt, .int .i64 gk, .int .i64 gr]] w (LacksPost w (lacksF bw br ⟨fi, fn, ft, fk, fr⟩ ⟨gi, gn, gt, gk, gr⟩)) := by
 obtain ⟨AW, cw, rfl, -, -⟩ := hb1.form
 obtain ⟨AR, cr, rfl, -, -⟩ := hb2.form
 obtain ⟨x1, x2, x3, x4, x5⟩ := boxes4 w [.slice AW bw.length cw] [.slice AR br.length cr] [.int .i64 fi, .string fn, .string ft, .int .i64 fk, .int .i64 fr] [.int .i64 gi, .string gn, .string gt, .int .i64 gk, .int .i64 gr] 24 24 55 55
 have f1 := Lib.hid (fun W (h : Below w.heap.size w W) => find_any (Old w) _ bw ft W ((RSl.fair RType.fair).below ((RSl.fair RType.fair).old hb1) h))
 have f2 := Lib.hid (fun W (h : Below w.heap.size w W) => find_any (Old w) _ br gt W ((RSl.fair RType.fair).below ((RSl.fair RType.fair).old hb2) h))
 obtain ⟨p, hp⟩ : ∃ p, p = lacksF bw br ⟨fi, fn, ft, fk, fr⟩ ⟨gi, gn, gt, gk, gr⟩ := ⟨_, rfl⟩
 rw [← hp]
 have Hp := Lib.hid hp
 have z1 := x1.cell 0
 have z2 := x2.cell 0
 have z3 : World.cell? _ _ = some (.string ft) := x3.cell 2
 have z4 : World.cell? _ _ = some (.string gt) := x4.cell 2
 have l1 := x1.lt
 have l2 := x2.lt
 have l3 := x3.lt
 have l4 := x4.lt
 clear hb1 hb2 hp
 go_enter Tryz.func40, Tryz.ntmps40
 go_wp2_with fail
 refine (f1.out _ x5).mono ?_
 rintro e w1 ⟨cs1, rfl, hr1, hb1⟩
 obtain ⟨t1, ht1⟩ : ∃ t, t = (findT bw ft).getD .zero := ⟨_, rfl⟩
 have Ht1 := Lib.hid ht1
 rw [← ht1] at hr1
 obtain ⟨P1, p1, P2, p2, P3, p3, rfl, -, -, -⟩ := hr1.parts
 have y2 := (x2.below hb1 x2.lt).alloc (.cells [.string t1.name, .bool t1.enum, .slice P1 t1.fields.length p1, .slice P2 t1.gone.length p2, .slice P3 t1.items.length p3].toArray 46)
 have y3 := (x3.below hb1 x3.lt).alloc (.cells [.string t1.name, .bool t1.enum, .slice P1 t1.fields.length p1, .slice P2 t1.gone.length p2, .slice P3 t1.items.length p3].toArray 46)
 have y4 := (x4.below hb1 x4.lt).alloc (.cells [.string t1.name, .bool t1.enum, .slice P1 t1.fields.length p1, .slice P2 t1.gone.length p2, .slice P3 t1.items.length p3].toArray 46)
 have hG1 := (below_via x5 hb1 x5.size).alloc (below_via x5 hb1 x5.size).size (.cells [.string t1.name, .bool t1.enum, .slice P1 t1.fields.length p1, .slice P2 t1.gone.length p2, .slice P3 t1.items.length p3].toArray 46)
 have k1 := Box.new w1 46 [.string t1.name, .bool t1.enum, .slice P1 t1.fields.length p1, .slice P2 t1.gone.length p2, .slice P3 t1.items.length p3]
 have hr1' := RType.fair.below (RType.fair.below hr1 hb1) ((Below.here w1).alloc (Nat.le_refl _) (.cells [.string t1.name, .bool t1.enum, .slice P1 t1.fields.length p1, .slice P2 t1.gone.length p2, .slice P3 t1.items.length p3].toArray 46))
 clear z1 z2 z3 z4 l1 l2 l3 l4 x1 x2 x3 x4 x5 hr1 hb1 ht1
 have z2 := y2.cell 0
 have z4 : World.cell? _ _ = some (.string gt) := y4.cell 2
 have l2 := y2.lt
 have l4 := y4.lt
 go_upto_region 2 with fail
 generalize w1.heap.size = Y1 at k1 ⊢
 generalize (World.alloc w1 _) = w2 at y2 y3 y4 hG1 k1 hr1' z2 z4 l2 l4 ⊢
 go_wp2_with fail
 refine (f2.out _ hG1).mono ?_
 rintro e w3 ⟨cs2, rfl, hr2, hb3⟩
 obtain ⟨tz, ht2⟩ : ∃ t, t = (findT br gt).getD .zero := ⟨_, rfl⟩
 have Ht2 := Lib.hid ht2
 rw [← ht2] at hr2
 obtain ⟨R1, r1, R2, r2, R3, r3, rfl, -, -, -⟩ := hr2.parts
 have v3 := (y3.below hb3 y3.lt).alloc (.cells [.string tz.name, .bool tz.enum, .slice R1 tz.fields.length r1, .slice R2 tz.gone.length r2, .slice R3 tz.items.length r3].toArray 46)
 have v4 := (y4.below hb3 y4.lt).alloc (.cells [.string tz.name, .bool tz.enum, .slice R1 tz.fields.length r1, .slice R2 tz.gone.length r2, .slice R3 tz.items.length r3].toArray 46)
 have hG3 := (below_via hG1 hb3 hG1.size).alloc (below_via hG1 hb3 hG1.size).size (.cells [.string tz.name, .bool tz.enum, .slice R1 tz.fields.length r1, .slice R2 tz.gone.length r2, .slice R3 tz.items.length r3].toArray 46)
 have k1' := (k1.below hb3 k1.lt).alloc (.cells [.string tz.name, .bool tz.enum, .slice R1 tz.fields.length r1, .slice R2 tz.gone.length r2, .slice R3 tz.items.length r3].toArray 46)
 have k2 := Box.new w3 46 [.string tz.name, .bool tz.enum, .slice R1 tz.fields.length r1, .slice R2 tz.gone.length r2, .slice R3 tz.items.length r3]
 have hr1'' := RType.fair.below (RType.fair.below hr1' hb3) ((Below.here w3).alloc (Nat.le_refl _) (.cells [.string tz.name, .bool tz.enum, .slice R1 tz.fields.length r1, .slice R2 tz.gone.length r2, .slice R3 tz.items.length r3].toArray 46))
 have hr2' := RType.fair.below (RType.fair.below hr2 hb3) ((Below.here w3).alloc (Nat.le_refl _) (.cells [.string tz.name, .bool tz.enum, .slice R1 tz.fields.length r1, .slice R2 tz.gone.length r2, .slice R3 tz.items.length r3].toArray 46))
 clear z2 z4 l2 l4 y2 y3 y4 hG1 k1 hr1' hr2 hb3 ht2
 go_upto_region 3 with fail
 generalize w3.heap.size = Y2 at k2 ⊢
 generalize (World.alloc w3 _) = V at v3 v4 hG3 k1' k2 hr1'' hr2' ⊢
 have hone := Lib.hid (fun n W (h : Below V.heap.size V W) => lacksOne_any (Old w) _ Y2 gi gk gr gn gt tz R1 R2 R3 r1 r2 r3 n W (v4.below h v4.lt) (k2.below h k2.lt) (RType.fair.below hr2' h))
 have c3 : V.cell? ⟨w.heap.size + 1 + 1, 3, none⟩ = some (.int .i64 fk) := v3.cell 3
 have l3 := v3.lt
 obtain ⟨y0, y1, y2, y3, y4⟩ := k1'.five
 have yl := k1'.lt
 have hit := (RType.rows_ hr1'').2.2
 clear v3 v4 k1' k2 hr1'' hr2'
 go_upto_block 0 with fail
 go_cut [15] from 38 to 63 (fun c W1 => RSl 1 8 RInt (New w) W1 [c] (numsOf bw ⟨fi, fn, ft, fk, fr⟩) ∧ Below V.heap.size V W1)
 case first =>
  by_cases h1 : fk = 1
  ·--[ONE
   subst h1
   have hb := Box.new V 3 [.int .i64 0, .int .i64 1]
   have hB := (Below.here V).alloc (Nat.le_refl _) (.cells [Value.int .i64 0, .int .i64 1].toArray 3)
   have hl : RSl 1 8 RInt (New w) (V.alloc (.cells [Value.int .i64 0, .int .i64 1].toArray 3)) [.slice (some ⟨V.heap.size, 0, none⟩) 2 2] [0, 1] :=
    RSl.of_box_flat (enc := fun x => [.int .i64 x]) (xs := [0, 1]) hb (show w.heap.size ≤ V.heap.size from hG3.size) (Nat.le_refl _) (by decide) (fun x hx => rfl)
   clear hb
   go_wp2_with fail
   go_meet
   case rel => exact ⟨hl, hB⟩
  ·by_cases h4 : fk = 4
   ·--[FOUR
    subst h4
    have hn : Hid (numsOf bw ⟨fi, fn, ft, 4, fr⟩ = t1.items.map (·.n)) := by show _ = _; rw [Ht1.out]; rfl
    obtain ⟨_, _, hif, hic, hibd⟩ := hit.form
    have Hit := Lib.hid hit
    have hil : t1.items.length ≤ 17592186043904 := by omega
    have hin := Lib.hid hil
    clear hif hic hit hibd
    go_wp2_with fail
    go_loopw [15, 54] (fun c15 c54 wr => ∃ k : Nat, c54 = .int .i64 k ∧ k ≤ t1.items.length ∧ Own V.heap.size 3 1 RInt NoT wr c15 ((t1.items.take k).map (·.n)) ∧ Below V.heap.size V wr) (fun _ c54 _ => t1.items.length - (intOf c54).toNat)
    case atStart => exact ⟨0, rfl, Nat.zero_le _, Own.nil_ _ _ _ _ _ _, Below.here V⟩
    case round =>
     obtain ⟨k, rfl, hk, hO, hB⟩ := hrel
     by_cases hlt : k < t1.items.length
     ·have hlt' : (k : Int) < (t1.items.length : Int) := by omega
      obtain ⟨g2, o2, rfl, hS2, hg2⟩ := Hit.out.base (by omega)
      have hc3 := (Hit.out.flat (enc := itemCells) hlt).keep (Keep.of_below hB) (show Old V g2 from hg2)
      have hgw2 : g2 < wr.heap.size := Nat.lt_of_lt_of_le hg2 hB.size
      obtain ⟨x, hxe⟩ : ∃ x, x = t1.items[k] := ⟨_, rfl⟩
      rw [← hxe] at hc3
      have hst : (t1.items.take (k + 1)).map (·.n) = (t1.items.take k).map (·.n) ++ [x.n] := by rw [List.take_succ_eq_append_getElem hlt, List.map_append, hxe]; rfl
      have q0 : wr.cell? ⟨g2, o2 + k * 2, none⟩ = some (.string x.name) := hc3.at_ 0 rfl
      have q1 : wr.cell? ⟨g2, o2 + k * 2 + 1, none⟩ = some (.int .i64 x.n) := hc3.at_ 1 rfl
      have hlen : ((t1.items.take k).map (·.n)).length ≤ 17592186043904 - 1 := by rw [List.length_map]; exact Nat.le_trans (List.length_take_le _ _) (by omega)
      obtain ⟨acc, hacc⟩ : ∃ acc, acc = (t1.items.take k).map (·.n) := ⟨_, rfl⟩
      rw [← hacc] at hO hst hlen
      clear hacc hxe hc3
      obtain ⟨As, cs, rfl, -⟩ := hO.form
      have Hst := Lib.hid hst
      have Hlen := Lib.hid hlen
      clear hst hlen
      have hB5 := hB.alloc hB.size (.cells #[.string x.name, .int .i64 x.n] 93)
      have hO5 := hO.alloc RInt.fair (.cells #[.string x.name, .int .i64 x.n] 93)
      go_wp2_with (at_builtin; go_must (refine wl_append _ rfl (.tmp 58) (.tmp 61) rfl sl_intsC RInt.fair rfl rfl (hO5.alloc RInt.fair _) (Src.one (es := [.int .i64 x.n]) (y := x.n) rfl (Ones.of_all rfl) rfl (Lies.newAt (by first | rfl | simp [World.setCell]))) (NoT.lt _) ?_ ?_ ?_))
      ·have := Hlen.out; go_light; (try simp only [List.length_cons, List.length_nil]); omega
      ·have := hB5.size; go_light; simp only [World.size_alloc] at *; omega
      ·intro v7 w7 hO7 hg7 hv7
       have hB7 := below_grown (hB5.alloc hB5.size (.cells #[.int .i64 x.n] 3)) hg7 (hB5.alloc hB5.size (.cells #[.int .i64 x.n] 3)).size (fun g' h => by have := (hO5.lt h).1; go_light; omega)
       rw [← Hst.out] at hO7
       clear hO hB hg7 hv7 Hst Hlen hB5 hO5 q0 q1
       go_wp2_with fail
       go_roundw
       case rel => exact ⟨k + 1, by simp, by omega, hO7, hB7⟩
       case measure => simp [intOf]; omega
     ·obtain rfl : k = t1.items.length := by omega
      have HR := Lib.hid (hO.read (S := New w) (by_ := 8) RInt.fair (fun _ h _ => h.elim) (fun k e => by have := (hO.lt e).1; have := hG3.size; exact Nat.le_trans (by assumption) (by assumption)) (by rw [List.length_map, List.take_length]; have := hin.out; omega))
      clear hO
      go_wp2_with fail
      go_meet
      case rel => exact ⟨by have := HR.out; rw [List.take_length, ← hn.out] at this; exact this, hB⟩
   ·--[SEVEN
    have hn : Hid (numsOf bw ⟨fi, fn, ft, fk, fr⟩ = sevenL) := by show _ = _; unfold numsOf; rw [if_neg h1, if_neg h4]; rfl
    clear hit
    go_wp2_with fail
    simp only [show (fk == 1) = false by simp [h1], show (fk == 4) = false by simp [h4]]
    clear h1 h4
    go_loopw [15, 38] (fun c15 c38 wr => ∃ k : Nat, c38 = .int .i64 k ∧ k ≤ 7 ∧ Own V.heap.size 3 1 RInt NoT wr c15 (sevenL.take k) ∧ Below V.heap.size V wr) (fun _ c38 _ => 7 - (intOf c38).toNat)
    case atStart => exact ⟨0, rfl, Nat.zero_le _, Own.nil_ _ _ _ _ _ _, Below.here V⟩
    case round =>
     obtain ⟨k, rfl, hk, hO, hB⟩ := hrel
     by_cases hlt : k < 7
     ·have hlt' : (k : Int) < 7 := by omega
      have e1 : IntKind.i64.wrap ((k : Int) + 1) = (k : Int) + 1 := IntWalk.i64_in _ (by omega)
      have hst := seven_step hlt
      have hlen : (sevenL.take k).length ≤ 7 := Nat.le_trans (List.length_take_le _ _) (by omega)
      obtain ⟨acc, hacc⟩ : ∃ acc, acc = sevenL.take k := ⟨_, rfl⟩
      rw [← hacc] at hO hst hlen
      clear hacc
      obtain ⟨As, cs, rfl, -⟩ := hO.form
      have Hst := Lib.hid hst
      clear hst
      go_wp2_with (at_builtin; go_must (refine wl_append _ rfl (.tmp 41) (.tmp 43) rfl sl_intsC RInt.fair rfl rfl (hO.alloc RInt.fair _) (Src.one (es := [.int .i64 k]) (y := (k : Int)) rfl (Ones.of_all rfl) rfl (Lies.newAt (by first | rfl | simp [World.setCell]))) (NoT.lt _) ?_ ?_ ?_))
      ·go_light; simp only [List.length_cons, List.length_nil]; omega
      ·go_light; simp only [World.size_alloc]; have := hB.size; omega
      ·intro v7 w7 hO7 hg7 hv7
       have hB7 := below_grown (hB.alloc hB.size (.cells #[.int .i64 k] 3)) hg7 (by simp only [World.size_alloc]; have := hB.size; omega) (fun g' h => (hO.lt h).1)
       rw [← Hst.out] at hO7
       clear hO hB hg7 hv7 Hst hlen
       go_wp2_with fail
       go_roundw
       case rel => exact ⟨k + 1, by simp, by omega, hO7, hB7⟩
       case measure => simp [intOf]; omega
     ·obtain rfl : k = 7 := by omega
      have HR := Lib.hid (hO.read (S := New w) (by_ := 8) RInt.fair (fun _ h _ => h.elim) (fun k e => by have := (hO.lt e).1; have := hG3.size; exact Nat.le_trans (by assumption) (by assumption)) (by decide))
      clear hO
      go_wp2_with fail
      go_meet
      case rel => exact ⟨by rw [hn.out]; exact HR.out, hB⟩
 case rest =>
  obtain ⟨hl, hB⟩ := hcut
  obtain ⟨V1, hV1⟩ : ∃ V, V = wc := ⟨_, rfl⟩
  subst hV1
  obtain ⟨An, cn, rfl, -, hnb⟩ := hl.form
  have hp1 : p = (numsOf bw ⟨fi, fn, ft, fk, fr⟩).find? (fun n => !okT ⟨gi, gn, gt, gk, gr⟩ tz n) := by rw [Hp.out, Ht2.out]; rfl
  obtain ⟨ns, hns⟩ : ∃ ns, ns = numsOf bw ⟨fi, fn, ft, fk, fr⟩ := ⟨_, rfl⟩
  rw [← hns] at hl hp1
  rw [← hns]
  have HN := Lib.hid hl
  have Hq := Lib.hid hp1
  have hnb' : ns.length ≤ 17592186043904 := by rw [← hns] at hnb; omega
  clear hl hp1 hns hnb c3 l3 y0 y1 y2 y3 y4 yl hit f1 f2
  go_wp2_with fail
  go_loopw [66] (fun c66 wr => ∃ k : Nat, c66 = .int .i64 k ∧ k ≤ ns.length ∧ Hid (p = (ns.drop k).find? (fun n => !okT ⟨gi, gn, gt, gk, gr⟩ tz n)) ∧ Below V.heap.size V wr ∧ Below V1.heap.size V1 wr) (fun c66 _ => ns.length - (intOf c66).toNat)
  case atStart => exact ⟨0, rfl, Nat.zero_le _, Hq, hB, Below.here _⟩
  case round =>
   obtain ⟨k, rfl, hk, HP, hB1, hB2⟩ := hrel
   by_cases hlt : k < ns.length
   ·have hlt' : (k : Int) < (ns.length : Int) := by omega
    have hN := (RSl.fair RInt.fair).below HN.out hB2
    obtain ⟨g2, o2, rfl, hS2, hg2⟩ := hN.base (by omega)
    have hc3 := hN.flat (enc := fun x => [.int .i64 x]) hlt
    obtain ⟨x, hxe⟩ : ∃ x, x = ns[k] := ⟨_, rfl⟩
    rw [← hxe] at hc3
    have q0 : wr.cell? ⟨g2, o2 + k, none⟩ = some (.int .i64 x) := by have := hc3.at_ 0 rfl; simpa using this
    have hP1 : Hid (p = if okT ⟨gi, gn, gt, gk, gr⟩ tz x = true then (ns.drop (k + 1)).find? (fun n => !okT ⟨gi, gn, gt, gk, gr⟩ tz n) else some x) := by
     show _ = _
     rw [HP.out, List.drop_eq_getElem_cons hlt, ← hxe, List.find?_cons]
     cases okT ⟨gi, gn, gt, gk, gr⟩ tz x <;> rfl
    have hcall := hone.out x wr hB1
    clear hN hc3 hxe HP
    go_wp2_with fail
    refine hcall.mono ?_
    rintro e w4 ⟨rfl, hb4⟩
    have hB4 := below_via hB1 hb4 hB1.size
    have hB5 := below_via hB2 hb4 hB2.size
    clear hcall hb4 q0 hB1 hB2
    obtain ⟨q, hq⟩ : ∃ q, q = okT ⟨gi, gn, gt, gk, gr⟩ tz x := ⟨_, rfl⟩
    rw [← hq] at hP1 ⊢
    clear hq
    cases q with
    | false =>
     have hP2 : Hid (p = some x) := hP1
     clear hP1
     go_wp2_with fail
     refine bodyPost_ret (results_tmp2 rfl _ _ _) rfl ?_
     exact ⟨by rw [hP2.out]; rfl, below_via hG3 hB4 hG3.size⟩
    | true =>
     have hP2 : Hid (p = (ns.drop (k + 1)).find? (fun n => !okT ⟨gi, gn, gt, gk, gr⟩ tz n)) := hP1
     clear hP1
     go_wp2_with fail
     go_roundw
     case rel => exact ⟨k + 1, by simp, by omega, hP2, hB4, hB5⟩
     case measure => simp [intOf]; omega
   ·have hP1 : Hid (p = none) := by show _ = _; rw [HP.out, List.drop_eq_nil_of_le (by omega)]; rfl
    clear HP
    go_wp2_with fail
    refine bodyPost_ret (results_tmp2 rfl _ _ _) rfl ?_
    exact ⟨by rw [hP1.out]; rfl, below_via hG3 hB1 hG3.size⟩
end Go.Proofs.YtfidfakcbjoilaaGreatDoor
