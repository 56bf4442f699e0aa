/- The walks of merge.names and merge.numbers. -/
import Derived.Test.YtihdnjnhhhafkaaGreatDoorMwalks
import Derived.Test.YtihdnjnhhhafkaaGreatDoorBase
import Derived.Test.YtihdnjnhhhafkaaGreatDoorRefShelf
set_option linter.all false
set_option maxRecDepth 100000
set_option maxHeartbeats 8000000
namespace Go.Proofs.YtihdnjnhhhafkaaGreatDoor
open Go.RowKit Go.Sort
abbrev RBook : Rel BookD := RSl 5 96 RType
theorem RBook.fair : Fair RBook := RSl.fair RType.fair
theorem sl_strs : SlInfo Tryz.prog 40 9 1 16 := SlInfo.mk (z := .string .empty) Tryz.underlying40 (by decide) (by decide) (by kernel_rfl) rfl
theorem sl_ints : SlInfo Tryz.prog 35 3 1 8 := SlInfo.mk (z := .int .i64 0) Tryz.underlying35 (by decide) (by decide) (by kernel_rfl) rfl
def RowPost {α : Type} (by_ : Nat) (R : Rel α) (w : World) (l : List α) (e : Ending) (w' : World) : Prop := ∃ v, e = .returned v ∧ RSl 1 by_ R (New w) w' [v] l ∧ Below w.heap.size w w'
theorem sortN_map (l : List ByteArray) : (sortN l).map bytes = (l.map bytes).mergeSort fun x y => decide (x ≤ y) := by
 unfold sortN
 rw [List.map_map]
 simp [Function.comp_def, bytes_of]
theorem sortN_len (l : List ByteArray) : (sortN l).length = l.length := by simp [sortN]
theorem sortI_len (l : List Int) : (sortI l).length = l.length := by simp [sortI]
theorem ba_of_bytes (x : ByteArray) : (⟨(bytes x).toArray⟩ : ByteArray) = x := by simp [bytes]
theorem sortN_any (base : Nat) (v : Value) (l : List ByteArray) (w : World) (ho : Own base 9 1 RStr NoT w v l) (hl : l.length ≤ 4400000000000) (hb : base ≤ w.heap.size) :
  Calls Tryz.prog 33 #[v] w fun e w' => e = .returned (.tuple #[]) ∧ RSl 1 16 RStr (fun g => base ≤ g) w' [v] (sortN l) ∧ Below base w w' := by
 have hform := ho
 obtain ⟨css, h1, _⟩ := hform
 rcases h1.2 with ⟨rfl, hn⟩ | ⟨g, cap, cur, rfl, hg, hh, hnc, _⟩
 ·have : l = [] := List.eq_nil_of_length_eq_zero hn
  subst this
  refine (Tryz.slices_Sort_string_none none 0 w).mono ?_
  rintro e w' ⟨rfl, rfl⟩
  exact ⟨rfl, (by rw [show sortN [] = [] from by simp [sortN]]; exact RSl.nil_), Below.refl _ _⟩
 ·have hgl : g < w.heap.size := (Array.getElem?_eq_some_iff.1 hh).1
  have hH : Holds encStr w g 0 (l.map bytes).toArray := Own.holds ho (by simp) (fun k x y cs hx hy hr => by
   have hr' : cs = [.string x] := hr
   rw [List.getElem?_map, hx] at hy
   have hy' : bytes x = y := by simpa using hy
   rw [hr', ← hy'])
  have hcall := Tryz.slices_Sort_string g 0 cap (l.map bytes) w hH hgl (by simp; omega)
  rw [List.length_map] at hcall
  refine hcall.mono ?_
  rintro e w' ⟨rfl, n, os, rfl⟩
  have hgr := grown_put encStr w n g 0 ((l.map bytes).mergeSort fun x y => decide (x ≤ y)).toArray os
  refine ⟨rfl, ?_, (Below.refl _ _).grown hgr hb (fun g' hg' => by cases hg'; exact hg)⟩
  have hc := put_cells (n := n) (os := os) hH hgl (zs := (l.map bytes).mergeSort fun x y => decide (x ≤ y)) (by simp)
  rw [← sortN_map] at hc ⊢
  have hlen := sortN_len l
  have := RSl.of_cells (by_ := 16) (R := RStr) (S := fun g => base ≤ g) (w := grow (putRow encStr (Sort.ahead w n) g 0 ((sortN l).map bytes).toArray) os) (g := g) (cap := cap) (xs := sortN l) hg (by rw [← sortN_map] at hgr; exact Nat.lt_of_lt_of_le hgl hgr.size) (by omega) (by omega) (fun k x hx => by
   have hk : k < (sortN l).length := by
    rcases Nat.lt_or_ge k (sortN l).length with h | h
    ·exact h
    ·rw [List.getElem?_eq_none h] at hx; cases hx
   refine ⟨.string x, ?_, rfl⟩
   rw [hc k (by simpa using hk)]
   rw [List.getElem?_eq_getElem hk] at hx
   injection hx with hx
   rw [List.getElem_map, hx])
  rw [hlen] at this
  exact this
theorem addS_step {todo rest acc R : List ByteArray} {x : ByteArray} (ht : todo = x :: rest) (he : todo.foldl addS acc = R) : rest.foldl addS (addS acc x) = R := by
 subst ht; exact he
theorem addS_true {acc : List ByteArray} {x : ByteArray} (h : true = hasS acc x) : addS acc x = acc := by unfold addS; rw [← h]; rfl
theorem addS_false {acc : List ByteArray} {x : ByteArray} (h : false = hasS acc x) : addS acc x = acc ++ [x] := by unfold addS; rw [← h]; rfl
theorem names_any (S : Nat → Prop) (v : Value) (l : List BookD) (w : World) (hl : RSl 1 24 RBook S w [v] l) (hlen : (l.flatMap fun b => b.map (·.name)).length ≤ 4400000000000) :
  Calls Tryz.prog 12 #[v] w (RowPost 16 RStr w (namesF l)) := by
 obtain ⟨A, cap, rfl, hlc, hlb⟩ := hl.form
 have HL := Lib.hid hl
 obtain ⟨R, hR⟩ : ∃ R, R = onceS (l.flatMap fun b => b.map (·.name)) := ⟨_, rfl⟩
 have hNF : namesF l = sortN R := by unfold namesF; rw [hR]
 have hR0 : (l.flatMap fun b => b.map (·.name)).foldl addS [] = R := hR.symm
 have HR0 := Lib.hid hR0
 have HLN := Lib.hid hlen
 rw [hNF]
 clear hl hNF hR hR0 hlen
 go_enter Tryz.func12, Tryz.ntmps12
 go_wp2_with fail
 go_loopw [3, 10] (fun v i wr => ∃ (k : Nat) (acc todo : List ByteArray), i = .int .i64 k ∧ k ≤ l.length ∧ Hid (todo = (l.drop k).flatMap fun b => b.map (·.name)) ∧ Hid (todo.foldl addS acc = R) ∧ Hid (acc.length + todo.length ≤ 4400000000000) ∧
   Own w.heap.size 9 1 RStr NoT wr v acc ∧ Below w.heap.size w wr) (fun _ i _ => l.length - (intOf i).toNat)
 case atStart => exact ⟨0, [], _, rfl, by omega, (show _ = _ by rw [List.drop_zero]), HR0, (show _ ≤ _ by have := HLN.out; simpa using this), Own.nil_ _ _ _ _ _ _, Below.refl _ _⟩
 case round =>
  obtain ⟨k, acc, todo, rfl, hk, ht, he, hn, ho, hb⟩ := hrel
  obtain ⟨Ao, co, rfl, hco⟩ := ho.form
  by_cases hlt : k < l.length
  ·obtain ⟨g, o, es, rfl, hS, hg, hes, hr, hc0⟩ := HL.out.at_ hlt
   have hc := hc0.keep (Keep.of_below hb) hS
   have hgw : g < wr.heap.size := Nat.lt_of_lt_of_le hg hb.size
   have hd : l.drop k = l[k] :: l.drop (k + 1) := List.drop_eq_getElem_cons hlt
   obtain ⟨b, hbe⟩ : ∃ b, b = l[k] := ⟨_, rfl⟩
   rw [← hbe] at hr hd
   have ht2 : todo = (b.map (·.name)) ++ (l.drop (k + 1)).flatMap fun b => b.map (·.name) := by rw [ht.out, hd]; simp
   have Ht2 := Lib.hid ht2
   have hr' := hr
   obtain ⟨A2, c2, rfl, hbc, hbb, -⟩ := hr'
   have q0 : wr.cell? ⟨g, o + k, none⟩ = some (.slice A2 b.length c2) := by have := hc.at_ 0 rfl; simpa using this
   have HB := Lib.hid hr
   have hwa := hb.alloc hb.size (.cells #[.slice A2 b.length c2] 24)
   have hoa := ho.alloc RStr.fair (.cells #[.slice A2 b.length c2] 24)
   clear hr hc hc0 hd hbe hes ht2 ht
   go_wp2_with fail
   go_loopw [3, 17] (fun v i wi => ∃ (j : Nat) (acc2 todo2 : List ByteArray), i = .int .i64 j ∧ j ≤ b.length ∧ Hid (todo2 = ((b.drop j).map (·.name)) ++ (l.drop (k + 1)).flatMap fun b => b.map (·.name)) ∧ Hid (todo2.foldl addS acc2 = R) ∧ Hid (acc2.length + todo2.length ≤ 4400000000000) ∧
     Own w.heap.size 9 1 RStr NoT wi v acc2 ∧ Below w.heap.size w wi) (fun _ i _ => b.length - (intOf i).toNat)
   case atStart => exact ⟨0, acc, todo, rfl, by omega, (show _ = _ by rw [List.drop_zero]; exact Ht2.out), he, hn, hoa, hwa⟩
   case round =>
    obtain ⟨j, acc2, todo2, rfl, hj, ht3, he3, hn3, ho3, hb3⟩ := hrel
    clear ho hoa hwa hn he hco
    obtain ⟨Ao2, co2, rfl, hco2⟩ := ho3.form
    by_cases hjl : j < b.length
    ·obtain ⟨g2, o2, es2, rfl, hS2, hg2, hes2, hr2, hc2⟩ := HB.out.at_ hjl
     have hc3 := hc2.keep (Keep.of_below hb3) hS2
     have hgw2 : g2 < wr.heap.size := Nat.lt_of_lt_of_le hg2 hb3.size
     have hd2 : b.drop j = b[j] :: b.drop (j + 1) := List.drop_eq_getElem_cons hjl
     obtain ⟨t, hte⟩ : ∃ t, t = b[j] := ⟨_, rfl⟩
     rw [← hte] at hr2 hd2
     obtain ⟨B1, l1, B2, l2, B3, l3, rfl, -, -, -⟩ := hr2.parts
     have q0 : wr.cell? ⟨g2, o2 + j * 5, none⟩ = some (.string t.name) := hc3.at_ 0 rfl
     have q1 : wr.cell? ⟨g2, o2 + j * 5 + 1, none⟩ = some (.bool t.enum) := hc3.at_ 1 rfl
     have q2 : wr.cell? ⟨g2, o2 + j * 5 + 2, none⟩ = some (.slice B1 t.fields.length l1) := hc3.at_ 2 rfl
     have q3 : wr.cell? ⟨g2, o2 + j * 5 + 3, none⟩ = some (.slice B2 t.gone.length l2) := hc3.at_ 3 rfl
     have q4 : wr.cell? ⟨g2, o2 + j * 5 + 4, none⟩ = some (.slice B3 t.items.length l3) := hc3.at_ 4 rfl
     have ht4 : todo2 = t.name :: (((b.drop (j + 1)).map (·.name)) ++ (l.drop (k + 1)).flatMap fun b => b.map (·.name)) := by rw [ht3.out, hd2]; simp
     have hst := addS_step ht4 he3.out
     have hn4 : acc2.length + 1 + (((b.drop (j + 1)).map (·.name)) ++ (l.drop (k + 1)).flatMap fun b => b.map (·.name)).length ≤ 4400000000000 := by
      have := hn3.out; rw [ht4] at this; simp only [List.length_cons] at this; omega
     obtain ⟨x, hx⟩ : ∃ x, x = t.name := ⟨_, rfl⟩
     rw [← hx] at q0 hst
     obtain ⟨rest, hrest⟩ : ∃ r, r = ((b.drop (j + 1)).map (·.name)) ++ (l.drop (k + 1)).flatMap fun b => b.map (·.name) := ⟨_, rfl⟩
     rw [← hrest] at hn4
     have hst2 : rest.foldl addS (addS acc2 x) = R := by rw [hrest]; exact hst
     have Hrest := Lib.hid hrest
     have Hst := Lib.hid hst2
     have Hn4 := Lib.hid hn4
     clear hx hst hst2 hrest hn4 ht4 hn3 he3 ht3 hd2 hr2 hc2 hc3 hes2 hte
     have hw5 := hb3.alloc hb3.size (.cells #[.string x, .bool t.enum, .slice B1 t.fields.length l1, .slice B2 t.gone.length l2, .slice B3 t.items.length l3] 38)
     have ho5 := ho3.alloc RStr.fair (.cells #[.string x, .bool t.enum, .slice B1 t.fields.length l1, .slice B2 t.gone.length l2, .slice B3 t.items.length l3] 38)
     have hrd := ho5.read (S := fun _ => True) (by_ := 16) RStr.fair (fun _ h => h.elim) (fun _ _ => trivial) (by have := Hn4.out; omega)
     have hcall := containsS_any _ _ acc2 x _ hrd
     obtain ⟨h, hh⟩ : ∃ h, h = hasS acc2 x := ⟨_, rfl⟩
     rw [← hh] at hcall
     have Hcall := Lib.hid hcall
     have Hh := Lib.hid hh
     have zt := Box.new wr 38 [.string x, .bool t.enum, .slice B1 t.fields.length l1, .slice B2 t.gone.length l2, .slice B3 t.items.length l3]
     clear hrd hcall hh ho3 hb3
     go_wp2_with fail
     refine Hcall.out.mono ?_
     rintro e w2 ⟨rfl, rfl⟩
     cases h
     ·have ea := addS_false Hh.out
      have Hst2 := Lib.hid (show rest.foldl addS (acc2 ++ [x]) = R by rw [← ea]; exact Hst.out)
      clear Hh Hst ea Hcall
      go_wp2_with (at_builtin; go_must (refine wl_append _ rfl (.tmp 26) (.tmp 29) rfl sl_strs RStr.fair rfl rfl (ho5.alloc RStr.fair _) (Src.one (es := [.string x]) (y := x) rfl (Ones.of_all rfl) rfl (Lies.newAt (by first | rfl | simp [World.setCell]))) (NoT.lt _) ?_ ?_ ?_))
      ·have := Hn4.out; go_light; simp only [List.length_cons, List.length_nil]; omega
      ·have := hw5.size; go_light; simp only [World.size_alloc] at *; omega
      ·intro v6 w6 ho6 hg6 hv6
       have hw6 := below_grown (hw5.alloc hw5.size (.cells #[.string x] 9)) hg6 (hw5.alloc hw5.size (.cells #[.string x] 9)).size (fun g' h => by have := (ho5.lt h).1; go_light; omega)
       go_wp2_with fail
       go_roundw
       case rel => exact ⟨j + 1, acc2 ++ [x], rest, by go_num, by omega, Hrest, Hst2, (show _ ≤ _ by have := Hn4.out; simp; omega), ho6, hw6⟩
       case measure => simp [intOf]; omega
     ·have ea := addS_true Hh.out
      have Hst2 := Lib.hid (show rest.foldl addS acc2 = R by rw [← ea]; exact Hst.out)
      clear Hh Hst ea Hcall
      go_wp2_with fail
      go_roundw
      case rel => exact ⟨j + 1, acc2, rest, by go_num, by omega, Hrest, Hst2, (show _ ≤ _ by have := Hn4.out; omega), ho5, hw5⟩
      case measure => simp [intOf]; omega
    ·have Ht5 := Lib.hid (show todo2 = (l.drop (k + 1)).flatMap fun b => b.map (·.name) by rw [ht3.out, List.drop_eq_nil_of_le (by omega)]; rfl)
     clear ht3
     go_wp2_with fail
     go_roundw
     case rel => exact ⟨k + 1, acc2, todo2, by go_num, by omega, Ht5, he3, hn3, ho3, hb3⟩
     case measure => simp [intOf]; omega
  ·have h0 : todo = [] := by rw [ht.out, List.drop_eq_nil_of_le (by omega)]; rfl
   have hfin : acc = R := by have := he.out; rw [h0] at this; exact this
   have hnl : acc.length ≤ 4400000000000 := by have := hn.out; omega
   subst hfin
   have hcall := sortN_any w.heap.size _ acc wr ho hnl hb.size
   have Hcall := Lib.hid hcall
   clear hcall ho hn he ht h0
   go_wp2_with fail
   refine Hcall.out.mono ?_
   rintro e w2 ⟨rfl, hr2, hb2⟩
   have Hr2 := Lib.hid hr2
   clear hr2
   go_wp2_with fail
   go_ret
   have hsz := hb.size
   exact ⟨_, rfl, (RSl.fair RStr.fair).mono Hr2.out (fun _ h _ => h), hb.trans hb2⟩
end Go.Proofs.YtihdnjnhhhafkaaGreatDoor
