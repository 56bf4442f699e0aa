/- The walk of the reader's number. -/
import Derived.Test.YtfobdbhmfohfnaaGreatDoorReader
import Derived.Test.YtfobdbhmfohfnaaGreatDoorRefShelf
import Derived.Lib.AppendIntMem
import Derived.Lib.AtoiAllCases
import Derived.Lib.AtoiErrMem
set_option linter.all false
set_option maxRecDepth 100000
set_option maxHeartbeats 8000000
namespace Go.Proofs.YtfobdbhmfohfnaaGreatDoor
open Go.RowKit
def Nums (w : World) : Prop := Lib.TabIs Tryz.prog w "internal/strconv.uint64pow10" .u64 Lib.pow10Tab ∧
 (∃ ev, w.cell? ⟨7, 0, none⟩ = some ev ∧ (ev = .nilIface ∨ ∃ te pe, ev = .iface te pe)) ∧ (∃ ev, w.cell? ⟨8, 0, none⟩ = some ev ∧ (ev = .nilIface ∨ ∃ te pe, ev = .iface te pe))
theorem Nums.below {w w' : World} (h : Nums w) (hb : Below w.heap.size w w') : Nums w' := by
 obtain ⟨h1, ⟨e1, h2, h3⟩, ⟨e2, h4, h5⟩⟩ := h
 refine ⟨Lib.tabBelow_of_tabIs h1 w' hb, ⟨e1, ?_, h3⟩, ⟨e2, ?_, h5⟩⟩
 ·rw [World.cell?_of_block (w := w) (hb.block _ (World.block_lt_of_cell? w _ h2))]; exact h2
 ·rw [World.cell?_of_block (w := w) (hb.block _ (World.block_lt_of_cell? w _ h4))]; exact h4
theorem rnumber_any (S : Nat → Prop) (g : Nat) (r : Rd) (B w : World) (h : Rdr S w g r) (hS : ¬ S g) (hz : r.next.1.size ≤ 4000) (hN : Nums B) (hB : Below B.heap.size B w) (hg : B.heap.size ≤ g) : Calls Tryz.prog 61 #[.pointer (some ⟨g, 0, none⟩)] w (RdEnd S w g (.int .i64 r.number.1) r.number.2) := by
 have hn := Lib.hid (next_any S g r w h hS)
 obtain ⟨x, hx⟩ : ∃ x, x = r.next.1 := ⟨_, rfl⟩
 obtain ⟨r2, hr2⟩ : ∃ x, x = r.next.2 := ⟨_, rfl⟩
 have Ht : Hid (r.number = match numW x with | some n => (n, r2) | none => (0, ⟨r2.l, true⟩)) := by show _ = _; rw [hx, hr2]; rfl
 rw [← hx, ← hr2] at hn
 rw [← hx] at hz
 obtain ⟨rn, hrn⟩ : ∃ q, q = r.number := ⟨_, rfl⟩
 rw [← hrn] at Ht ⊢
 have HS := Lib.hid hS
 have HN := Lib.hid (fun w1 (hg1 : w.grownBy w1 (some g)) => hN.below (below_grown hB hg1 hB.size (fun g' e => by injection e with e; omega)))
 clear h hx hr2 hS hrn hN hB hg
 go_enter Tryz.func61, Tryz.ntmps61
 go_wp2_with fail
 refine hn.out.mono ?_
 rintro e w1 ⟨rfl, h1, hg⟩
 obtain ⟨ht, ⟨ev1, hv1, he1⟩, ⟨ev2, hv2, he2⟩⟩ := HN.out w1 hg
 have HT := Lib.hid ht
 have H1 := Lib.hid h1
 clear ht h1 hn HN
 go_wp2_with fail
 rcases hat : Lib.atoiAll (bytes x) with v | _ | _
 ·skip
  obtain ⟨b1, b2⟩ := Lib.atoiAll_bounds hat
  refine (Tryz.strconv_Atoi_ok x (by omega) v hat w1).mono ?_
  rintro e w2 ⟨rfl, hw2⟩
  have hb2 : Below w1.heap.size w1 w2 := by
   rcases hw2 with rfl | ⟨t, rfl⟩
   ·exact Below.refl _ _
   ·exact Lib.bytesWorld_below _ _ _
  have HT2 := Lib.hid (Lib.tabBelow_of_tabIs HT.out w2 hb2)
  have Hnw : Hid (numW x = if Lib.itoa v = bytes x ∧ -1099511627776 ≤ v ∧ v ≤ 1099511627776 then some v else none) := by show _ = _; unfold numW; rw [hat]
  clear hw2 hv1 he1 hv2 he2 hat
  go_wp2_with fail
  refine (Tryz.strconv_Itoa v b1 b2 w2 HT2.out).mono ?_
  rintro e w3 ⟨rfl, k, os, rfl⟩
  obtain ⟨sv, hsv⟩ : ∃ s : ByteArray, s = ⟨(Lib.itoa v).toArray⟩ := ⟨_, rfl⟩
  rw [← hsv]
  have hb3 := below_via hb2 (Lib.below_grow w2.heap.size w2 (Nat.le_refl _) k os) hb2.size
  generalize Sort.grow (w2.drewN k) os = w3 at hb3 ⊢
  have hr3 := H1.out.below hb3
  have hg3 := grown_via hg (grown_below hb3 (some g)) (.inl rfl)
  have HR := Lib.hid hr3
  have HRb := Lib.hid (hr3.set_ HS.out true)
  have hgb := grown_via hg3 (grown_one (g := g) (i := 1) (.bool true)) (.inl rfl)
  obtain ⟨vv, hbx, -⟩ := hr3
  have c1 : w3.cell? ⟨g, 1, none⟩ = some (.bool r2.bad) := hbx.cell 1
  have f1 := hbx.frozen 1
  have hl := hbx.lt
  clear hbx hb3 hb2 hg HT2 HT H1
  by_cases hi : Lib.itoa v = bytes x
  ·have hxe : sv = x := by
    rw [hsv, hi]
   have e0 : (!(sv.toList == x.toList)) = false := by rw [hxe]; simp
   clear hsv
   by_cases hv1 : v < -1099511627776
   ·have Hn : Hid (rn = (0, ⟨r2.l, true⟩)) := by show _ = _; rw [Ht.out, Hnw.out, if_neg (by omega)]
    clear hi hxe
    go_wp2_with fail
    go_ret
    exact ⟨by rw [Hn.out]; rfl, by rw [Hn.out]; exact HRb.out, hgb⟩
   ·by_cases hv2 : 1099511627776 < v
    ·have Hn : Hid (rn = (0, ⟨r2.l, true⟩)) := by show _ = _; rw [Ht.out, Hnw.out, if_neg (by omega)]
     clear hi hxe
     go_wp2_with fail
     go_ret
     exact ⟨by rw [Hn.out]; rfl, by rw [Hn.out]; exact HRb.out, hgb⟩
    ·have Hn : Hid (rn = (v, r2)) := by show _ = _; rw [Ht.out, Hnw.out, if_pos ⟨hi, by omega, by omega⟩]
     have hv3 : v ≤ 1099511627776 := by omega
     have hv4 : -1099511627776 ≤ v := by omega
     clear hi hxe
     go_wp2_with fail
     go_ret
     exact ⟨by rw [Hn.out]; rfl, by rw [Hn.out]; exact HR.out, hg3⟩
  ·have e0 : (!(sv.toList == x.toList)) = true := by
    rw [ba_eq]
    simp only [Bool.not_eq_true', decide_eq_false_iff_not]
    intro e
    exact hi (by rw [← e, hsv])
   clear hsv
   have Hn : Hid (rn = (0, ⟨r2.l, true⟩)) := by show _ = _; rw [Ht.out, Hnw.out, if_neg (fun h => hi h.1)]
   clear hi
   go_wp2_with fail
   go_ret
   exact ⟨by rw [Hn.out]; rfl, by rw [Hn.out]; exact HRb.out, hgb⟩
 ·skip
  have Hn : Hid (rn = (0, ⟨r2.l, true⟩)) := by show _ = _; rw [Ht.out]; unfold numW; rw [hat]
  refine (Tryz.strconv_Atoi_syntax x (by omega) hat ev1 w1 hv1 he1).mono ?_
  rintro e w2 ⟨N, rfl, _, _, hb2⟩
  have hr3 := H1.out.below hb2
  have hg3 := grown_via hg (grown_below hb2 (some g)) (.inl rfl)
  have HRb := Lib.hid (hr3.set_ HS.out true)
  have hgb := grown_via hg3 (grown_one (g := g) (i := 1) (.bool true)) (.inl rfl)
  obtain ⟨vv, hbx, -⟩ := hr3
  have c1 : w2.cell? ⟨g, 1, none⟩ = some (.bool r2.bad) := hbx.cell 1
  have f1 := hbx.frozen 1
  have hl := hbx.lt
  clear hbx hb2 hg HT H1 hat hv1 he1 hv2 he2
  go_wp2_with fail
  go_ret
  exact ⟨by rw [Hn.out]; rfl, by rw [Hn.out]; exact HRb.out, hgb⟩
 ·skip
  have Hn : Hid (rn = (0, ⟨r2.l, true⟩)) := by show _ = _; rw [Ht.out]; unfold numW; rw [hat]
  refine (Tryz.strconv_Atoi_range x (by omega) hat ev2 w1 hv2 he2).mono ?_
  rintro e w2 ⟨N, rfl, _, _, hb2⟩
  have hr3 := H1.out.below hb2
  have hg3 := grown_via hg (grown_below hb2 (some g)) (.inl rfl)
  have HRb := Lib.hid (hr3.set_ HS.out true)
  have hgb := grown_via hg3 (grown_one (g := g) (i := 1) (.bool true)) (.inl rfl)
  obtain ⟨vv, hbx, -⟩ := hr3
  have c1 : w2.cell? ⟨g, 1, none⟩ = some (.bool r2.bad) := hbx.cell 1
  have f1 := hbx.frozen 1
  have hl := hbx.lt
  clear hbx hb2 hg HT H1 hat hv1 he1 hv2 he2
  go_wp2_with fail
  go_ret
  exact ⟨by rw [Hn.out]; rfl, by rw [Hn.out]; exact HRb.out, hgb⟩
end Go.Proofs.YtfobdbhmfohfnaaGreatDoor
