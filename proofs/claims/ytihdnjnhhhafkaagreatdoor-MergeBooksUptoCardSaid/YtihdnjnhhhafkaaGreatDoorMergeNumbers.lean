/- The walk of merge.numbers. -/
import Derived.Test.YtihdnjnhhhafkaaGreatDoorMergeNames
import Derived.Lib.RowBridge
set_option linter.all false
set_option maxRecDepth 100000
set_option maxHeartbeats 8000000
namespace Go.Proofs.YtihdnjnhhhafkaaGreatDoor
open Go.RowKit Go.Sort
def SortedI (base : Nat) (v : Value) (l : List Int) (w' : World) : Prop :=
 (v = .slice none 0 0 ∧ l = []) ∨ ∃ g cap, v = .slice (some ⟨g, 0, none⟩) l.length cap ∧ base ≤ g ∧ g < w'.heap.size ∧ l.length ≤ cap ∧ Holds (Value.int .i64) w' g 0 (sortI l).toArray
theorem sortI_any (base : Nat) (v : Value) (l : List Int) (w : World) (ho : Own base 3 1 RInt NoT w v l) (hl : l.length ≤ 17592186043904) (hb : base ≤ w.heap.size) :
  Calls Tryz.prog 51 #[v] w fun e w' => e = .returned (.tuple #[]) ∧ SortedI base v l w' ∧ Below base w w' := by
 have hform := ho
 obtain ⟨css, h1, _⟩ := hform
 rcases h1.2 with ⟨rfl, hn⟩ | ⟨g, cap, cur, rfl, hg, hh, hnc, _⟩
 ·have : l = [] := List.eq_nil_of_length_eq_zero hn
  subst this
  refine (Tryz.slices_Sort_int_none none 0 w).mono ?_
  rintro e w' ⟨rfl, rfl⟩
  exact ⟨rfl, .inl ⟨rfl, rfl⟩, Below.refl _ _⟩
 ·have hgl : g < w.heap.size := (Array.getElem?_eq_some_iff.1 hh).1
  have hH : Holds (Value.int .i64) w g 0 l.toArray := Own.holds ho rfl (fun k x y cs hx hy hr => by
   have hr' : cs = [.int .i64 x] := hr
   rw [hx] at hy
   injection hy with hy
   rw [hr', ← hy])
  have hcall := Tryz.slices_Sort_int g 0 cap l w hH hgl (by omega)
  refine hcall.mono ?_
  rintro e w' ⟨rfl, n, os, rfl⟩
  have hgr := grown_put (Value.int .i64) w n g 0 (l.mergeSort fun x y => decide (x ≤ y)).toArray os
  refine ⟨rfl, .inr ⟨g, cap, rfl, hg, Nat.lt_of_lt_of_le hgl hgr.size, hnc, ?_⟩, (Below.refl _ _).grown hgr hb (fun g' hg' => by cases hg'; exact hg)⟩
  refine holds_grow _ _ os g 0 _ (by rw [size_putRow]; exact hgl) ?_
  exact holds_putRow _ _ g 0 l.toArray _ (holds_ahead _ w n g 0 _ hH) (by simp [sortI])
theorem compact_le (l : List Int) : (Lib.compact l).length ≤ l.length := Lib.compact_length_le l
theorem compactI_any (base : Nat) (v : Value) (l : List Int) (w : World) (hs : SortedI base v l w) (hl : l.length ≤ 17592186043904) (hb : base ≤ w.heap.size) :
  Calls Tryz.prog 52 #[v] w fun e w' => ∃ v', e = .returned v' ∧ RSl 1 8 RInt (fun g => base ≤ g) w' [v'] (Lib.compact (sortI l)) ∧ Below base w w' := by
 rcases hs with ⟨rfl, rfl⟩ | ⟨g, cap, rfl, hg, hgl, hnc, hH⟩
 ·refine (Tryz.slices_Compact_int_empty none 0 w).mono ?_
  rintro e w' ⟨rfl, rfl⟩
  exact ⟨_, rfl, (by rw [show Lib.compact (sortI []) = [] from by simp [sortI, Lib.compact, Lib.compactUpTo]]; exact RSl.nil_), Below.refl _ _⟩
 ·have hlen := sortI_len l
  have hcall := Tryz.slices_Compact_int g 0 cap (sortI l) w hH (by omega) (by omega)
  rw [hlen] at hcall
  refine hcall.mono ?_
  rintro e w' ⟨rfl, q, rfl⟩
  obtain ⟨zs, hzs⟩ : ∃ zs, zs = Lib.compact (sortI l) ++ List.replicate (l.length - (Lib.compact (sortI l)).length) 0 := ⟨_, rfl⟩
  have hle := compact_le (sortI l)
  have hzl : zs.length = (sortI l).length := by rw [hzs]; simp; omega
  rw [← hzs]
  have hgr := grown_put (Value.int .i64) w q g 0 zs.toArray #[]
  have hc := put_cells (n := q) (os := #[]) hH hgl hzl
  have e0 : grow (putRow (Value.int .i64) (Sort.ahead w q) g 0 zs.toArray) #[] = putRow (Value.int .i64) (Sort.ahead w q) g 0 zs.toArray := by unfold grow; rw [Array.append_empty]
  rw [e0] at hgr hc
  refine ⟨_, rfl, ?_, (Below.refl _ _).grown hgr hb (fun g' hg' => by cases hg'; exact hg)⟩
  refine RSl.of_cells (by_ := 8) hg (Nat.lt_of_lt_of_le hgl hgr.size) (by omega) (by omega) (fun k x hx => ⟨.int .i64 x, ?_, rfl⟩)
  have hk : k < (Lib.compact (sortI l)).length := by
   rcases Nat.lt_or_ge k (Lib.compact (sortI l)).length with h | h
   ·exact h
   ·rw [List.getElem?_eq_none h] at hx; cases hx
  rw [hc k (by omega)]
  have : zs[k]? = some x := by rw [hzs, List.getElem?_append_left hk]; exact hx
  rw [List.getElem?_eq_getElem (by omega)] at this
  injection this with this
  rw [this]
theorem numbers_any (S : Nat → Prop) (v : Value) (l : List TypeD) (w : World) (hl : RSl 5 96 RType S w [v] l) (hlen : (l.flatMap fun t => t.items.map (·.n)).length ≤ 17592186043904) :
  Calls Tryz.prog 37 #[v] w (RowPost 8 RInt w (numbersF l)) := by
 obtain ⟨A, cap, rfl, hlc, hlb⟩ := hl.form
 have HL := Lib.hid hl
 obtain ⟨R, hR⟩ : ∃ R, R = l.flatMap fun t => t.items.map (·.n) := ⟨_, rfl⟩
 have hNF : numbersF l = Lib.compact (sortI R) := by unfold numbersF; rw [hR]
 rw [← hR] at hlen
 have HR := Lib.hid hR
 have HLN := Lib.hid hlen
 rw [hNF]
 clear hl hNF hR hlen
 go_enter Tryz.func37, Tryz.ntmps37
 go_wp2_with fail
 go_loopw [3, 10] (fun v i wr => ∃ (k : Nat) (acc : List Int), i = .int .i64 k ∧ k ≤ l.length ∧ Hid (acc ++ ((l.drop k).flatMap fun t => t.items.map (·.n)) = R) ∧
   Own w.heap.size 3 1 RInt NoT wr v acc ∧ Below w.heap.size w wr) (fun _ i _ => l.length - (intOf i).toNat)
 case atStart => exact ⟨0, [], rfl, by omega, (show _ = _ by rw [HR.out, List.drop_zero, List.nil_append]), Own.nil_ _ _ _ _ _ _, Below.refl _ _⟩
 case round =>
  obtain ⟨k, acc, rfl, hk, ht, ho, hb⟩ := hrel
  obtain ⟨Ao, co, rfl, hco⟩ := ho.form
  by_cases hlt : k < l.length
  ·obtain ⟨g, o, es, rfl, hS, hg, hes, hr, hc0⟩ := HL.out.at_ hlt
   have hc := hc0.keep (Keep.of_below hb) hS
   have hgw : g < wr.heap.size := Nat.lt_of_lt_of_le hg hb.size
   have hd : l.drop k = l[k] :: l.drop (k + 1) := List.drop_eq_getElem_cons hlt
   obtain ⟨t, hte⟩ : ∃ t, t = l[k] := ⟨_, rfl⟩
   rw [← hte] at hr hd
   have ht2 : acc ++ (t.items.map (·.n) ++ (l.drop (k + 1)).flatMap fun t => t.items.map (·.n)) = R := by rw [← ht.out, hd]; simp
   have Ht2 := Lib.hid ht2
   obtain ⟨B1, l1, B2, l2, B3, l3, rfl, -, -, hI⟩ := hr.parts
   obtain ⟨_, _, hif, hic, hib⟩ := hI.form
   have q0 : wr.cell? ⟨g, o + k * 5, none⟩ = some (.string t.name) := hc.at_ 0 rfl
   have q1 : wr.cell? ⟨g, o + k * 5 + 1, none⟩ = some (.bool t.enum) := hc.at_ 1 rfl
   have q2 : wr.cell? ⟨g, o + k * 5 + 2, none⟩ = some (.slice B1 t.fields.length l1) := hc.at_ 2 rfl
   have q3 : wr.cell? ⟨g, o + k * 5 + 3, none⟩ = some (.slice B2 t.gone.length l2) := hc.at_ 3 rfl
   have q4 : wr.cell? ⟨g, o + k * 5 + 4, none⟩ = some (.slice B3 t.items.length l3) := hc.at_ 4 rfl
   have HI := Lib.hid hI
   have hwa := hb.alloc hb.size (.cells #[.string t.name, .bool t.enum, .slice B1 t.fields.length l1, .slice B2 t.gone.length l2, .slice B3 t.items.length l3] 38)
   have hoa := ho.alloc RInt.fair (.cells #[.string t.name, .bool t.enum, .slice B1 t.fields.length l1, .slice B2 t.gone.length l2, .slice B3 t.items.length l3] 38)
   clear hr hI hc hc0 hd hte hes ht2 ht hif
   go_wp2_with fail
   go_loopw [3, 17] (fun v i wi => ∃ (j : Nat) (acc2 : List Int), i = .int .i64 j ∧ j ≤ t.items.length ∧ Hid (acc2 ++ ((t.items.drop j).map (·.n) ++ (l.drop (k + 1)).flatMap fun t => t.items.map (·.n)) = R) ∧
     Own w.heap.size 3 1 RInt NoT wi v acc2 ∧ Below w.heap.size w wi) (fun _ i _ => t.items.length - (intOf i).toNat)
   case atStart => exact ⟨0, acc, rfl, by omega, Ht2, hoa, hwa⟩
   case round =>
    obtain ⟨j, acc2, rfl, hj, ht3, ho3, hb3⟩ := hrel
    clear ho hoa hwa hco
    obtain ⟨Ao2, co2, rfl, hco2⟩ := ho3.form
    by_cases hjl : j < t.items.length
    ·obtain ⟨g2, o2, rfl, hS2, hg2⟩ := HI.out.base (by omega)
     have hc3 := (HI.out.flat (enc := itemCells) hjl).keep (Keep.of_below hb3) hS2
     have hgw2 : g2 < wr.heap.size := Nat.lt_of_lt_of_le hg2 hb3.size
     have hd2 : t.items.drop j = t.items[j] :: t.items.drop (j + 1) := List.drop_eq_getElem_cons hjl
     obtain ⟨x, hxe⟩ : ∃ x, x = t.items[j] := ⟨_, rfl⟩
     rw [← hxe] at hc3 hd2
     have q0 : wr.cell? ⟨g2, o2 + j * 2, none⟩ = some (.string x.name) := hc3.at_ 0 rfl
     have q1 : wr.cell? ⟨g2, o2 + j * 2 + 1, none⟩ = some (.int .i64 x.n) := hc3.at_ 1 rfl
     have ht4 : (acc2 ++ [x.n]) ++ ((t.items.drop (j + 1)).map (·.n) ++ (l.drop (k + 1)).flatMap fun t => t.items.map (·.n)) = R := by rw [← ht3.out, hd2]; simp
     have hn4 : acc2.length + 1 ≤ 17592186043904 := by
      have h1 := HLN.out; rw [← ht4] at h1; simp only [List.length_append, List.length_cons, List.length_nil] at h1; omega
     have Ht4 := Lib.hid ht4
     have Hn4 := Lib.hid hn4
     clear ht4 ht3 hn4 hd2 hxe hc3
     have hw5 := hb3.alloc hb3.size (.cells #[.string x.name, .int .i64 x.n] 62)
     have ho5 := ho3.alloc RInt.fair (.cells #[.string x.name, .int .i64 x.n] 62)
     go_wp2_with (at_builtin; go_must (refine wl_append _ rfl (.tmp 21) (.tmp 24) rfl sl_ints RInt.fair rfl rfl (ho5.alloc RInt.fair _) (Src.one (es := [.int .i64 x.n]) (y := x.n) rfl (Ones.of_all rfl) rfl (Lies.newAt (by first | rfl | simp [World.setCell]))) (NoT.lt _) ?_ ?_ ?_))
     ·have := Hn4.out; go_light; (try simp only [List.length_cons, List.length_nil]); omega
     ·have := hw5.size; go_light; simp only [World.size_alloc] at *; omega
     ·intro v6 w6 ho6 hg6 hv6
      have hw6 := below_grown (hw5.alloc hw5.size (.cells #[.int .i64 x.n] 3)) hg6 (hw5.alloc hw5.size (.cells #[.int .i64 x.n] 3)).size (fun g' h => by have := (ho5.lt h).1; go_light; omega)
      go_wp2_with fail
      go_roundw
      case rel => exact ⟨j + 1, acc2 ++ [x.n], by go_num, by omega, Ht4, ho6, hw6⟩
      case measure => simp [intOf]; omega
    ·have Ht5 := Lib.hid (show acc2 ++ ((l.drop (k + 1)).flatMap fun t => t.items.map (·.n)) = R by rw [← ht3.out, List.drop_eq_nil_of_le (show t.items.length ≤ j by omega)]; rfl)
     clear ht3
     go_wp2_with fail
     go_roundw
     case rel => exact ⟨k + 1, acc2, by go_num, by omega, Ht5, ho3, hb3⟩
     case measure => simp [intOf]; omega
  ·have hfin : acc = R := by rw [← ht.out, List.drop_eq_nil_of_le (by omega)]; simp
   have hnl : acc.length ≤ 17592186043904 := by rw [hfin]; exact HLN.out
   have Hcall := Lib.hid (sortI_any w.heap.size _ acc wr ho hnl hb.size)
   have Hnl := Lib.hid hnl
   have Hfin := Lib.hid hfin
   clear ho ht hfin hnl
   go_wp2_with fail
   refine Hcall.out.mono ?_
   rintro e w2 ⟨rfl, hr2, hb2⟩
   have hw2 := hb.trans hb2
   have Hcall2 := Lib.hid (compactI_any w.heap.size _ acc w2 hr2 Hnl.out hw2.size)
   clear hr2
   go_wp2_with fail
   refine Hcall2.out.mono ?_
   rintro e w3 ⟨v3, rfl, hr3, hb3⟩
   have Hr3 := Lib.hid hr3
   clear hr3
   go_wp2_with fail
   go_ret
   exact ⟨_, rfl, (RSl.fair RInt.fair).mono (Hfin.out ▸ Hr3.out) (fun _ h _ => h), hw2.trans hb3⟩
end Go.Proofs.YtihdnjnhhhafkaaGreatDoor
