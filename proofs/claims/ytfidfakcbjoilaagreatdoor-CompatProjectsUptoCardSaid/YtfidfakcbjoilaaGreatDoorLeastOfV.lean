/- The walk of value.LeastOf. -/
import Derived.Deep.Light
import Derived.Test.YtfidfakcbjoilaaGreatDoorValCode
import Derived.Test.YtfidfakcbjoilaaGreatDoorValueLeast
import Derived.Test.YtfidfakcbjoilaaGreatDoorVLaws
import Derived.Test.YtfidfakcbjoilaaGreatDoorBookGood
set_option linter.all false
set_option maxRecDepth 100000
set_option maxHeartbeats 8000000
namespace Go.Proofs.YtfidfakcbjoilaaGreatDoor
open Go.RowKit
def LeastFieldF (b : BookD) (name : ByteArray) (id : Int) : ValueD × Int := if goodF b ≠ 0 then (.zero, 1) else if (fieldOf (typeOf b name) id).isSome = false then (.zero, 3) else (leastOfF b 4 ((fieldOf (typeOf b name) id).getD .zero), 0)
theorem field_good {b : BookD} {name : ByteArray} {id : Int} (hg : goodF b = 0) (h : (fieldOf (typeOf b name) id).isSome = true) : fieldP b ((fieldOf (typeOf b name) id).getD .zero) ∧ EndsP b 4 ((fieldOf (typeOf b name) id).getD .zero) := by
 obtain ⟨f, hf⟩ := Option.isSome_iff_exists.1 h
 rw [hf]
 have h1 := (fieldOf_some hf).1
 unfold typeOf at h1
 cases ht : findT b name with
 | none => rw [ht] at h1; cases h1
 | some t =>
  rw [ht] at h1
  have htm := (findT_some ht).1
  cases he : t.enum with
  | true =>
   have hm := good_enum hg htm he
   have hz : t.fields = [] := List.eq_nil_of_length_eq_zero hm.2.2.2.1
   have h2 : f ∈ t.fields := h1
   rw [hz] at h2; cases h2
  | false =>
   have hm := good_msg hg htm he
   exact ⟨msg_field hm h1, good_ends hg hm h1⟩
theorem leastOfV_results {W : World} {a : Act} {g : Nat} {c0 c1 c2 c3 c4 : Value} {n : Int} (hb : Box W g 37 [c0, c1, c2, c3, c4]) (h4 : a.tmps.getD 6 undef = .pointer (some ⟨g, 0, none⟩)) (h5 : a.tmps.getD 7 undef = .int .i64 n) :
  (results Tryz.f54 a.tmps).run Tryz.prog W = .ok (.tuple #[.agg #[c0, c1, c2, c3, c4], .int .i64 n]) W := by
 obtain ⟨e0, e1, e2, e3, e4⟩ := hb.five
 simp only [Array.getD_eq_getD_getElem?] at h4 h5
 simp [results, Tryz.results54, go_sem, h4, h5, e0, e1, e2, e3, e4]
theorem vLeastOf_any (S : Nat → Prop) (vb : Value) (b : BookD) (name : ByteArray) (id : Int) (w : World) (hb0 : RSl 5 96 RType S w [vb] b) (hM : Words w) (hB : BookOk b) :
  Calls Tryz.prog 54 #[.agg #[vb], .string name, .int .i64 id] w (ValCode w (LeastFieldF b name id)) := by
 obtain ⟨A, cap, rfl, hlc, hlb⟩ := hb0.form
 obtain ⟨r, hrr⟩ : ∃ r, r = LeastFieldF b name id := ⟨_, rfl⟩
 have hr0 : r = if goodF b ≠ 0 then (.zero, 1) else if (fieldOf (typeOf b name) id).isSome = false then (.zero, 3) else (leastOfF b 4 ((fieldOf (typeOf b name) id).getD .zero), 0) := hrr
 have hrun : goodF b = 0 → (fieldOf (typeOf b name) id).isSome = true → ∀ W xid xname xtype xkind xrule, (fieldOf (typeOf b name) id).getD .zero = ⟨xid, xname, xtype, xkind, xrule⟩ → RSl 5 96 RType S W [.slice A b.length cap] b → Calls Tryz.prog 86 #[.agg #[.slice A b.length cap], .agg #[.int .i64 xid, .string xname, .string xtype, .int .i64 xkind, .int .i64 xrule]] W (ValPost W (leastOfF b 4 ((fieldOf (typeOf b name) id).getD .zero))) := fun hg hs W xid xname xtype xkind xrule he h0 => by
  obtain ⟨h1, h2⟩ := field_good hg hs
  rw [he] at h1 h2 ⊢
  exact leastOf_any S (.slice A b.length cap) b hg 4 ⟨xid, xname, xtype, xkind, xrule⟩ W h0 h1 h2
 have hgood := fun W (h0 : RSl 5 96 RType S W [.slice A b.length cap] b) (h1 : Words W) => good_any S _ b W h0 h1 hB
 rw [← hrr]
 obtain ⟨lv, hlv⟩ : ∃ lv, lv = leastOfF b 4 ((fieldOf (typeOf b name) id).getD .zero) := ⟨_, rfl⟩
 rw [← hlv] at hr0 hrun
 obtain ⟨gd, hgd⟩ : ∃ gd, gd = goodF b := ⟨_, rfl⟩
 rw [← hgd] at hgood hr0 hrun
 obtain ⟨ty, hty⟩ : ∃ ty, ty = typeOf b name := ⟨_, rfl⟩
 rw [← hty] at hr0 hrun
 have HB := Lib.hid hb0
 have HM := Lib.hid hM
 have Hrun := Lib.hid hrun
 have Hgood := Lib.hid hgood
 have Hr := Lib.hid hr0
 have Hty := Lib.hid hty
 obtain ⟨x1, x2, x3⟩ := boxes2 w [.slice A b.length cap] [.int .i64 0, .int .i64 0, .string ⟨#[]⟩, .slice none 0 0, .slice none 0 0] 24 37
 clear hb0 hM hB hrr hr0 hrun hlv hgd hty hgood
 go_enter Tryz.func54, Tryz.ntmps54
 go_wp2_with fail
 refine (find_any S _ b name _ ((RSl.fair RType.fair).below HB.out x3)).mono ?_
 rintro e w2 ⟨cs3, rfl, hr3, hb2⟩
 obtain ⟨B1, l1, B2, l2, B3, l3, rfl, -, -, -⟩ := hr3.parts
 have hty' : (findT b name).getD TypeD.zero = ty := Hty.out.symm
 rw [hty'] at hr3 ⊢
 obtain ⟨okt, hokt⟩ : ∃ ok, ok = (findT b name).isSome := ⟨_, rfl⟩
 rw [← hokt]
 have HT := Lib.hid (RType.fair.keep hr3 (Keep.of_below (hb2.alloc hb2.size (.cells #[.string ty.name, .bool ty.enum, .slice B1 ty.fields.length l1, .slice B2 ty.gone.length l2, .slice B3 ty.items.length l3] 46))))
 have hw2 := (below_via x3 hb2 x3.size).alloc (below_via x3 hb2 x3.size).size (.cells #[.string ty.name, .bool ty.enum, .slice B1 ty.fields.length l1, .slice B2 ty.gone.length l2, .slice B3 ty.items.length l3] 46)
 have z1 := (x1.below hb2 x1.lt).alloc (.cells #[.string ty.name, .bool ty.enum, .slice B1 ty.fields.length l1, .slice B2 ty.gone.length l2, .slice B3 ty.items.length l3] 46)
 have z2 := (x2.below hb2 x2.lt).alloc (.cells #[.string ty.name, .bool ty.enum, .slice B1 ty.fields.length l1, .slice B2 ty.gone.length l2, .slice B3 ty.items.length l3] 46)
 have zt : Box (w2.alloc (.cells #[.string ty.name, .bool ty.enum, .slice B1 ty.fields.length l1, .slice B2 ty.gone.length l2, .slice B3 ty.items.length l3] 46)) w2.heap.size 46 [.string ty.name, .bool ty.enum, .slice B1 ty.fields.length l1, .slice B2 ty.gone.length l2, .slice B3 ty.items.length l3] := Box.new w2 _ _
 clear hr3 hb2 hokt hty' x1 x2 x3
 go_wp2_with fail
 generalize hWq : w2.alloc (.cells #[.string ty.name, .bool ty.enum, .slice B1 ty.fields.length l1, .slice B2 ty.gone.length l2, .slice B3 ty.items.length l3] 46) = W2 at *
 generalize hXq : w2.heap.size = XT at *
 clear hWq hXq w2
 refine (fieldOf_out S _ ty id _ HT.out).mono ?_
 rintro e w3 ⟨fx, hfx, rfl, hb3⟩
 obtain ⟨xid, xname, xtype, xkind, xrule⟩ := fx
 dsimp only
 obtain ⟨so, hso⟩ : ∃ so, so = (fieldOf ty id).isSome := ⟨_, rfl⟩
 rw [← hso] at Hr Hrun ⊢
 have hw3 := (below_via hw2 hb3 hw2.size).alloc (below_via hw2 hb3 hw2.size).size (.cells #[.int .i64 xid, .string xname, .string xtype, .int .i64 xkind, .int .i64 xrule] 55)
 have v1 := (z1.below hb3 z1.lt).alloc (.cells #[.int .i64 xid, .string xname, .string xtype, .int .i64 xkind, .int .i64 xrule] 55)
 have v2 := (z2.below hb3 z2.lt).alloc (.cells #[.int .i64 xid, .string xname, .string xtype, .int .i64 xkind, .int .i64 xrule] 55)
 have vx : Box (w3.alloc (.cells #[.int .i64 xid, .string xname, .string xtype, .int .i64 xkind, .int .i64 xrule] 55)) w3.heap.size 55 [.int .i64 xid, .string xname, .string xtype, .int .i64 xkind, .int .i64 xrule] := Box.new w3 _ _
 have s0 : w3.cell? ⟨w.heap.size, 0, none⟩ = some (.slice A b.length cap) := (z1.below hb3 z1.lt).cell 0
 have hl1 := (z1.below hb3 z1.lt).lt
 clear hb3 z1 z2 zt hso hw2
 go_wp2_with fail
 generalize hWq : w3.alloc (.cells #[.int .i64 xid, .string xname, .string xtype, .int .i64 xkind, .int .i64 xrule] 55) = W3 at *
 generalize hXq : w3.heap.size = X at *
 clear hWq hXq s0 hl1 w3
 refine (Hgood.out _ ((RSl.fair RType.fair).below HB.out hw3) (HM.out.below hw3)).mono ?_
 rintro e w4 ⟨rfl, hb4⟩
 have hw4 := below_via hw3 hb4 hw3.size
 have u1 := v1.below hb4 v1.lt
 have u2 := v2.below hb4 v2.lt
 have ux := vx.below hb4 vx.lt
 clear hb4 v1 v2 vx hw3
 by_cases hg0 : gd = 0
 ·subst hg0
  rw [if_neg (by simp)] at Hr
  cases so with
  | false =>
   rw [if_pos rfl] at Hr
   have Hno := Hr
   have Hb5 := Lib.hid (u2.setCells [.int .i64 0, .int .i64 0, .string ⟨#[]⟩, .slice none 0 0, .slice none 0 0] rfl)
   have Hw5 := Lib.hid (below_setCells (g := w.heap.size + 1) (Nat.le_succ _) [.int .i64 0, .int .i64 0, .string ⟨#[]⟩, .slice none 0 0, .slice none 0 0] 0 _ hw4)
   obtain ⟨r0, r1, r2, r3, r4⟩ := u2.five
   have g0 := u2.frozen 0
   have g1 := u2.frozen 1
   have g2 := u2.frozen 2
   have g3 := u2.frozen 3
   have g4 := u2.frozen 4
   have hlr := u2.lt
   go_wp2_with fail
   change bodyPost _ _ _ _ _ (setCells w4 (w.heap.size + 1) 0 [.int .i64 0, .int .i64 0, .string ⟨#[]⟩, .slice none 0 0, .slice none 0 0])
   rw [Hno.out]
   exact bodyPost_ret (leastOfV_results Hb5.out rfl rfl) rfl ⟨_, rfl, RVal.zero, Hw5.out⟩
  | true =>
   rw [if_neg (by simp)] at Hr
   have Hno := Hr
   have Hrun2 := Lib.hid (fun W => Hrun.out (by simp) (by simp) W xid xname xtype xkind xrule hfx.out)
   have s0 : w4.cell? ⟨w.heap.size, 0, none⟩ = some (.slice A b.length cap) := u1.cell 0
   have hl1 := u1.lt
   obtain ⟨k0, k1, k2, k3, k4⟩ := ux.five
   have hlx := ux.lt
   clear Hrun hfx
   go_wp2_with fail
   refine (Hrun2.out _ ((RSl.fair RType.fair).below HB.out hw4)).mono ?_
   rintro e w5 ⟨cs5, rfl, hr5, hb5⟩
   obtain ⟨vk, vn, vs, vids, vls⟩ := lv
   clear s0 hl1 k0 k1 k2 k3 k4 hlx
   obtain ⟨D1, h1, D2, h2, rfl, -, -⟩ := hr5.parts
   have hwz := below_via hw4 hb5 hw4.size
   have yz := u2.below hb5 u2.lt
   have Hb5 := Lib.hid (yz.setCells [.int .i64 vk, .int .i64 vn, .string vs, .slice D1 vids.length h1, .slice D2 vls.length h2] rfl)
   have Hw5 := Lib.hid (below_setCells (g := w.heap.size + 1) (Nat.le_succ _) [.int .i64 vk, .int .i64 vn, .string vs, .slice D1 vids.length h1, .slice D2 vls.length h2] 0 _ hwz)
   have hlo : w.heap.size + 1 < w4.heap.size := u2.lt
   have Hr5 := Lib.hid (RVal.fair.mono (RVal.fair.keep hr5 (Keep.setCells (g := w.heap.size + 1) (by show ¬ (w4.heap.size ≤ w.heap.size + 1); omega) [.int .i64 vk, .int .i64 vn, .string vs, .slice D1 vids.length h1, .slice D2 vls.length h2] 0 w5)) (T := New w) (fun q hq _ => (show w.heap.size ≤ q by have : w4.heap.size ≤ q := hq; omega)))
   obtain ⟨r0, r1, r2, r3, r4⟩ := yz.five
   have g0 := yz.frozen 0
   have g1 := yz.frozen 1
   have g2 := yz.frozen 2
   have g3 := yz.frozen 3
   have g4 := yz.frozen 4
   have hlr := yz.lt
   clear hr5 hb5 hwz yz hlo
   go_wp2_with fail
   change bodyPost _ _ _ _ _ (setCells w5 (w.heap.size + 1) 0 [.int .i64 vk, .int .i64 vn, .string vs, .slice D1 vids.length h1, .slice D2 vls.length h2])
   rw [Hno.out]
   exact bodyPost_ret (leastOfV_results Hb5.out rfl rfl) rfl ⟨_, rfl, Hr5.out, Hw5.out⟩
 ·have hgb : (gd != 0) = true := by simpa using hg0
  rw [if_pos hg0] at Hr
  have Hno := Hr
  clear hg0
  have Hb5 := Lib.hid (u2.setCells [.int .i64 0, .int .i64 0, .string ⟨#[]⟩, .slice none 0 0, .slice none 0 0] rfl)
  have Hw5 := Lib.hid (below_setCells (g := w.heap.size + 1) (Nat.le_succ _) [.int .i64 0, .int .i64 0, .string ⟨#[]⟩, .slice none 0 0, .slice none 0 0] 0 _ hw4)
  obtain ⟨r0, r1, r2, r3, r4⟩ := u2.five
  have g0 := u2.frozen 0
  have g1 := u2.frozen 1
  have g2 := u2.frozen 2
  have g3 := u2.frozen 3
  have g4 := u2.frozen 4
  have hlr := u2.lt
  go_wp2_with fail
  change bodyPost _ _ _ _ _ (setCells w4 (w.heap.size + 1) 0 [.int .i64 0, .int .i64 0, .string ⟨#[]⟩, .slice none 0 0, .slice none 0 0])
  rw [Hno.out]
  exact bodyPost_ret (leastOfV_results Hb5.out rfl rfl) rfl ⟨_, rfl, RVal.zero, Hw5.out⟩
end Go.Proofs.YtfidfakcbjoilaaGreatDoor
