/- The walk of Parse. -/
import Derived.Test.YtfobdbhmfohfnaaGreatDoorProws
import Derived.Test.YtfobdbhmfohfnaaGreatDoorBookGood
import Derived.Deep.CutBlock
set_option linter.all false
set_option maxRecDepth 100000
set_option maxHeartbeats 8000000
namespace Go.Proofs.YtfobdbhmfohfnaaGreatDoor
open Go.RowKit
theorem sl_types2 : SlInfo Tryz.prog 22 40 5 96 := SlInfo.mk (z := .agg #[.string .empty, .bool false, .slice none 0 0, .slice none 0 0, .slice none 0 0]) Tryz.underlying22 (by decide) (by decide) (by kernel_rfl) rfl
def ParseEnd (w : World) (p : BookD × Int) (e : Ending) (w' : World) : Prop :=
 ∃ v, e = .returned (.tuple #[.agg #[v], .int .i64 p.2]) ∧ RSl 5 96 RType (fun y => w.heap.size ≤ y) w' [v] p.1 ∧ Below w.heap.size w w'
theorem parse_results {W : World} {a : Act} {g : Nat} {v : Value} {n : Int} (hb : Box W g 24 [v]) (h2 : a.tmps.getD 2 undef = .pointer (some ⟨g, 0, none⟩)) (h3 : a.tmps.getD 3 undef = .int .i64 n) :
  (results Tryz.f11 a.tmps).run Tryz.prog W = .ok (.tuple #[.agg #[v], .int .i64 n]) W := by
 have c0 := hb.cell 0
 simp only [List.getElem?_cons_zero] at c0
 simp only [Array.getD_eq_getD_getElem?] at h2 h3
 simp [results, Tryz.results11, go_sem, h2, h3, c0]
theorem toList_is (x y : ByteArray) (l : List UInt8) (h : y.data.toList = l) : (x.toList == l) = decide (x = y) := by rw [← h, ← ByteArray.toList_eq]; exact ba_eq x y
theorem parse_any (s : ByteArray) (w : World) (hs : s.size ≤ 9223372036854775807) (hW : Words w) (hN : Nums w) (hL : Lists w) : Calls Tryz.prog 11 #[.string s] w (ParseEnd w (parseF (bytes s))) := by
 obtain ⟨p, hp⟩ : ∃ p, p = parseF (bytes s) := ⟨_, rfl⟩
 rw [← hp]
 have Hp := Lib.hid hp
 have HW := Lib.hid hW
 have HN := Lib.hid hN
 have HL := Lib.hid hL
 have hZ0 := Box.new w 24 [.slice none 0 0]
 have hG0 : Below w.heap.size w (w.alloc (.cells [Value.slice none 0 0].toArray 24)) := (Below.here w).alloc (Nat.le_refl _) _
 clear hp hW hN hL
 by_cases hl : 4000 < s.size
 ·--[LONG
  have He : Hid (p = ([], 7)) := by show _ = _; rw [Hp.out, parseF, if_pos (show 4000 < (bytes s).length from hl)]
  have f0 := hZ0.frozen 0
  have c0 := hZ0.cell 0
  have hl2 : (4000 : Int) < (s.size : Int) := by omega
  clear hl
  go_enter Tryz.func11, Tryz.ntmps11
  go_wp2_with fail
  refine bodyPost_ret (parse_results hZ0 rfl rfl) rfl ?_
  exact ⟨_, by rw [He.out], by rw [He.out]; exact RSl.nil_, hG0⟩
 ·have hsz : s.size ≤ 4000 := by omega
  have Hsz := Lib.hid hsz
  have hl2 : ¬ (4000 : Int) < (s.size : Int) := by omega
  have hsp := Lib.hid (fun W => split_any s W hsz)
  clear hl hsz hs
  go_enter Tryz.func11, Tryz.ntmps11
  go_wp2_with fail
  generalize (World.alloc w (.cells _ _)) = w0 at hZ0 hG0 ⊢
  refine (hsp.out w0).mono ?_
  rintro e w1 ⟨vl, rfl, hrl, hb1⟩
  have hZ1 := hZ0.below hb1 hZ0.lt
  have hG1 := below_via hG0 hb1 hG0.size
  obtain ⟨ml, hml⟩ : ∃ m, m = spl (bytes s) := ⟨_, rfl⟩
  rw [← hml] at hrl ⊢
  have Hml := Lib.hid hml
  clear hml hZ0 hG0 hb1
  cases ml with
  | none =>
   have hZ2 := hZ1.set_ 0 (.slice none 0 0)
   have hG2 := hG1.setCell (p := ⟨w.heap.size, 0, none⟩) (Nat.le_refl _) (.slice none 0 0)
   have He : Hid (p = ([], 1)) := by show _ = _; rw [Hp.out]; exact parseF_none Hsz.out Hml.out.symm
   have f0 := hZ1.frozen 0
   have c0 := hZ1.cell 0
   have hz := hZ1.lt
   go_wp2_with fail
   refine bodyPost_ret (parse_results hZ2 rfl rfl) rfl ?_
   exact ⟨_, by rw [He.out], by rw [He.out]; exact RSl.nil_, hG2⟩
  | some l =>
   have Hr : Hid (p = parseR (typesRF (l.length + 2) ⟨l, false⟩ [])) := by show _ = _; rw [Hp.out]; exact parseF_some Hsz.out Hml.out.symm
   have Hs0 := Lib.hid (spl_small Hml.out.symm Hsz.out)
   obtain ⟨Al, cl, rfl, -, -⟩ := hrl.form
   simp only [Option.getD_some] at hrl ⊢
   have hrl1 := (RSl.fair RStr.fair).mono hrl (T := fun y => y < w1.heap.size) (fun y _ h => h)
   clear hrl
   go_wp2_with fail
   have hR2 : Rdr (fun y => y < w1.heap.size) ((w1.alloc (.cells [Value.slice Al l.length cl, .bool false].toArray 71)).alloc (.cells [Value.slice none 0 0].toArray 24)) w1.heap.size ⟨l, false⟩ :=
    ⟨_, (boxes2 w1 [.slice Al l.length cl, .bool false] [.slice none 0 0] 71 24).1, (RSl.fair RStr.fair).below hrl1 (boxes2 w1 [.slice Al l.length cl, .bool false] [.slice none 0 0] 71 24).2.2⟩
   have hX2 := (boxes2 w1 [.slice Al l.length cl, .bool false] [.slice none 0 0] 71 24).2.1
   have hG2 := below_via hG1 (boxes2 w1 [.slice Al l.length cl, .bool false] [.slice none 0 0] 71 24).2.2 hG1.size
   have hZ2 := hZ1.below (boxes2 w1 [.slice Al l.length cl, .bool false] [.slice none 0 0] 71 24).2.2 hZ1.lt
   have hlt : w.heap.size < w1.heap.size := hZ1.lt
   clear hrl1 hZ1 hG1
   generalize (World.alloc (World.alloc w1 _) _) = w2 at hR2 hX2 hG2 hZ2 ⊢
   obtain ⟨g, hg⟩ : ∃ g, g = w1.heap.size := ⟨_, rfl⟩
   rw [← hg] at hR2 hX2 hlt ⊢
   clear hg
   go_loopw [] (fun wr => ∃ (q : Rd) (xs : List TypeC) (v : Value) (ts us : List TypeD) (k : Nat), Rdr (fun y => y < g) wr g q ∧ Box wr (g + 1) 24 [v] ∧ Box wr w.heap.size 24 [.slice none 0 0] ∧ ReadC (g + 2) wr v xs ts ∧ All2 LikeT ts us ∧ Below w.heap.size w wr ∧ Hid (Small q ∧ rdM q ≤ k ∧ ts.length + rdM q ≤ 4001 ∧ typesRF (l.length + 2) ⟨l, false⟩ [] = typesRF k q us)) (fun wr => rdMw wr g)
   case atStart => exact ⟨⟨l, false⟩, [], _, [], [], l.length + 2, hR2, hX2, hZ2, ReadC.nil_ _ _, .nil, hG2, (show _ ∧ _ from ⟨Hs0.out, by show l.length + 1 ≤ _; omega, by show 0 + (l.length + 1) ≤ _; have : l.length ≤ 4000 := Hs0.out.1; omega, rfl⟩)⟩
   case round =>
    clear hR2 hX2 hG2 hZ2
    obtain ⟨q, xs, v, ts, us, k, hR, hX, hZ, hC, hK, hG, HI⟩ := hrel
    have hM := Lib.hid hR.m
    have HR := Lib.hid hR
    obtain ⟨uv, hbx, hrw⟩ := hR
    obtain ⟨A, cap, rfl, -, -⟩ := hrw.form
    have c0 : wr.cell? ⟨g, 0, none⟩ = some (.slice A q.l.length cap) := hbx.cell 0
    have c1 : wr.cell? ⟨g, 1, none⟩ = some (.bool q.bad) := hbx.cell 1
    have hgl := hbx.lt
    have z0 := hZ.cell 0
    have f0 := hZ.frozen 0
    have zl := hZ.lt
    clear hbx hrw
    by_cases hlen : 0 < q.l.length
    ·have hlen' : (0 : Int) < (q.l.length : Int) := by omega
     cases hbad : q.bad with
     | true =>
      have He : Hid (p = ([], 1)) := by show _ = _; rw [Hr.out, HI.out.2.2.2, types_stop k us (by rw [hbad]; simp), parseR, hbad]; rfl
      have hZ3 := hZ.set_ 0 (.slice none 0 0)
      have hG3 := hG.setCell (p := ⟨w.heap.size, 0, none⟩) (Nat.le_refl _) (.slice none 0 0)
      rw [hbad] at c1
      clear hbad
      go_wp2_with fail
      refine bodyPost_ret (parse_results hZ3 rfl rfl) rfl ?_
      exact ⟨_, by rw [He.out], by rw [He.out]; exact RSl.nil_, hG3⟩
     | false =>
      have Hbad := Lib.hid hbad
      have Hlen := Lib.hid hlen
      rw [hbad] at c1
      clear hbad hlen z0 f0 zl
      go_wp2_with fail
      refine (next_any _ g q wr HR.out (Nat.lt_irrefl g)).mono ?_
      rintro e w3 ⟨rfl, h3, hg3⟩
      have hX3 := hX.grown hg3 (by intro e; injection e with e; omega)
      have hZ3 := hZ.grown hg3 (by intro e; injection e with e; omega)
      have hG3 := below_grown hG hg3 hG.size (fun g' e => by injection e with e; omega)
      have hC3 := hC.kept (Keep.of_grown hg3 (fun k e hk => by injection e with e; omega))
      have hbs : g + 2 ≤ w3.heap.size := by have := hX3.lt; omega
      obtain ⟨x, hx⟩ : ∃ x, x = q.next.1 := ⟨_, rfl⟩
      obtain ⟨q1, hq1⟩ : ∃ x, x = q.next.2 := ⟨_, rfl⟩
      rw [← hx]
      rw [← hq1] at h3
      have Hx := Lib.hid hx
      have Hq1 := Lib.hid hq1
      clear hx hq1 HR hX hZ hG hC c0 c1 hgl hg3 hlen'
      by_cases hm : x = wMessage
      ·have em : (x.toList == [109, 101, 115, 115, 97, 103, 101]) = true := by rw [toList_is x wMessage [109, 101, 115, 115, 97, 103, 101] rfl]; simpa using hm
       have Hstep := Lib.hid (types_message (k := k) us Hlen.out Hbad.out (by rw [← Hx.out]; exact hm) HI.out.1 HI.out.2.1)
       rw [← Hq1.out] at Hstep
       have Hm := Lib.hid (message_m (r := q1) (by rw [Hq1.out]; exact HI.out.1.next.1))
       clear hm
       go_upto_region 12 with fail
       clear em
       have hRd := h3.keep (Keep.drew _ _)
       have hXd := hX3.drew
       have hZd := hZ3.drew
       have hGd := below_drew hG3
       have hCd := hC3.kept (Keep.drew _ _)
       replace hbs : g + 2 ≤ w3.drew.heap.size := hbs
       have hS : (fun W' => World.cell? W' ⟨g + 1, 0, none⟩ = some v) w3.drew := hX3.drew.cell 0
       refine lateP_start (fun W' => World.cell? W' ⟨g + 1, 0, none⟩ = some v) (fun i => i != 7) (by kernel_rfl) ?_
       clear h3 hX3 hZ3 hG3 hC3
       generalize w3.drew = Wd at hRd hXd hZd hGd hCd hbs hS ⊢
       refine ppP 0 ?_
       try simp only [pu]
       refine tkP 1 hS ?_
       try simp only [pu]
       refine ppP 2 ?_
       try simp only [pu]
       refine lateP_one (i := 3) rfl (by kernel_rfl) (fun K hK => ?_)
       go_simp
       refine (rmessage_any _ g q1 w Wd hRd (Nat.lt_irrefl g) (fun _ h => Nat.lt_trans h hRd.lt) (by rw [Hq1.out]; exact HI.out.1.next.1) HN.out HL.out hGd (by omega)).mono ?_
       rintro e w5 ⟨vf, vg, vi, t, rfl, hOf, hrg, hri, hlk, h5, hg5⟩
       obtain ⟨F, p1, hvf, -⟩ := hOf.form
       subst hvf
       obtain ⟨G, p2, rfl, -, -⟩ := hrg.form
       obtain ⟨I, p3, rfl, -, -⟩ := hri.form
       obtain ⟨xc, hxc⟩ : ∃ xc : TypeC, xc = ⟨t.name, t.enum, F, t.fields.length, p1, G, t.gone.length, p2, I, t.items.length, p3⟩ := ⟨_, rfl⟩
       have Hrow : Hid (RowAt Wd.heap.size (fun y => Wd.heap.size ≤ y ∧ xc.fb ≠ some y) w5 xc t) := (show RowAt _ _ _ _ _ by rw [hxc]; exact ⟨rfl, rfl, hOf, hrg, hri⟩)
       have hX5 := hXd.grown hg5 (by intro e; injection e with e; omega)
       have hZ5 := hZd.grown hg5 (by intro e; injection e with e; omega)
       have hG5 := below_grown hGd hg5 hGd.size (fun g' e => by injection e with e; omega)
       have hC5 := hCd.kept (Keep.of_grown hg5 (fun k e hk => by injection e with e; omega))
       have hs5 : g + 2 ≤ w5.heap.size := Nat.le_trans hbs hg5.size
       replace hS : (fun W' => World.cell? W' ⟨g + 1, 0, none⟩ = some v) w5 := hX5.cell 0
       clear hXd hZd hGd hRd hOf hrg hri
       refine hK.out _ _ (fun _ _ => hS) ?_
       clear hK K
       try simp only [pu]
       refine lateP_one (i := 4) rfl (by kernel_rfl) (fun K hK => ?_)
       go_simp
       obtain ⟨cc, hcc⟩ : ∃ cc : List Value, cc = [.string t.name, .bool t.enum, .slice F t.fields.length p1, .slice G t.gone.length p2, .slice I t.items.length p3] := ⟨_, rfl⟩
       have hct : typeCells xc = cc := by rw [hxc, hcc]; rfl
       have hB7 := Box.new w5 40 cc
       have h7 := h5.keep (Keep.alloc _ w5 (.cells cc.toArray 40))
       have hX7 := hX5.alloc (.cells cc.toArray 40)
       have hZ7 := hZ5.alloc (.cells cc.toArray 40)
       have hG7 := hG5.alloc hG5.size (.cells cc.toArray 40)
       have hA7 := (Below.here w5).alloc (Nat.le_refl _) (.cells cc.toArray 40)
       have hO7 := hC5.row.alloc RTypeC.fair (.cells cc.toArray 40)
       have hl7 := hC5.len
       have ho7 : Ones cc := by rw [hcc]; exact Ones.of_all rfl
       have hn7 : cc.length = 5 := by rw [hcc]; rfl
       rw [hcc] at hB7 h7 hX7 hZ7 hG7 hA7 hO7
       replace hS : (fun W' => World.cell? W' ⟨g + 1, 0, none⟩ = some v) (w5.alloc (.cells [.string t.name, .bool t.enum, .slice F t.fields.length p1, .slice G t.gone.length p2, .slice I t.items.length p3].toArray 40)) := hX7.cell 0
       clear hX5 hZ5 hG5 hC5 h5
       refine hK.out _ _ (fun _ _ => hS) ?_
       clear hK K
       try simp only [pu]
       refine lateP_one (i := 5) rfl (by kernel_rfl) (fun K hK => ?_)
       obtain ⟨A7, c7, hv7, -⟩ := hO7.form
       refine step_append _ rfl (.tmp 50) (.tmp 53) rfl sl_types2 RTypeC.fair rfl rfl hO7 (Src.one (es := [.string t.name, .bool t.enum, .slice F t.fields.length p1, .slice G t.gone.length p2, .slice I t.items.length p3]) (y := xc) rfl (hcc ▸ ho7) (by show _ = typeCells xc; rw [hct, hcc]) hB7.lies) (NoT.lt _) (by have := HI.out.2.2.1; simp; omega) (Nat.le_trans hs5 hA7.size) ?_
       intro v8 w8 hO8 hg8 hv8
       obtain ⟨A8, c8, hv8', -⟩ := hO8.form
       subst hv8'
       have hC8 := hCd.push hg5 (show g < g + 2 by omega) hbs Hrow.out hA7 hO8 hg8 hv8
       generalize (xs ++ [xc]).length = n8 at hC8 ⊢
       have h8 := h7.grown hg8 (fun k e => by have := (hO7.lt e).1; exact ⟨fun (hk : k < g) => by omega, by omega⟩)
       have hX8 := hX7.grown hg8 (hX7.ne_own hO7 (by decide))
       have hZ8 := hZ7.grown hg8 (hZ7.ne_own hO7 (by decide))
       have hG8 := below_grown hG7 hg8 hG7.size (fun k e => by have := (hO7.lt e).1; omega)
       replace hS : (fun W' => World.cell? W' ⟨g + 1, 0, none⟩ = some v) w8 := hX8.cell 0
       clear hX7 hZ7 hG7 h7 hB7 hO7 hO8 hg8 hv8 hv7 hCd hg5 hA7 Hrow
       refine hK.out _ _ (fun _ _ => hS) ?_
       clear hK K
       try simp only [pu]
       refine ppP 6 ?_
       try simp only [pu]
       have f8 := hX8.frozen 0
       have c8' := hX8.cell 0
       have lX := hX8.lt
       have h9 := h8.keep (Keep.setCell w8 (a := ⟨g + 1, 0, none⟩) (Value.slice A8 n8 c8) (show ¬ (g + 1 < g ∨ g + 1 = g) by omega))
       have hC9 := hC8.kept (Keep.setCell w8 (a := ⟨g + 1, 0, none⟩) (Value.slice A8 n8 c8) (show ¬ g + 2 ≤ g + 1 by omega))
       have hX9 := hX8.set_ 0 (Value.slice A8 n8 c8)
       have hZ9 := hZ8.far (p := ⟨g + 1, 0, none⟩) (show w.heap.size ≠ g + 1 by omega) (Value.slice A8 n8 c8)
       have hG9 := hG8.setCell (p := ⟨g + 1, 0, none⟩) (show w.heap.size ≤ g + 1 by omega) (Value.slice A8 n8 c8)
       clear h8 hC8 hX8 hZ8 hG8
       refine lateP_one (i := 7) rfl (by kernel_rfl) (fun K hK => ?_)
       go_simp
       refine hK.out _ _ (fun h => absurd h (by decide)) ?_
       clear hK K
       try simp only [pu]
       refine lateP_done (by kernel_rfl) ?_ _
       clear hS f8 c8' lX
       generalize (World.setCell w8 _ _) = w9 at h9 hC9 hX9 hZ9 hG9 ⊢
       have H9 := Lib.hid h9.m
       go_wp2_with fail
       refine ⟨?_, ?measure⟩
       (repeat apply Exists.intro)
       refine ⟨?rel, rfl⟩
       case rel =>
        obtain ⟨i1, i2, i3, i4⟩ := HI.out
        obtain ⟨k', hk1, hk2⟩ := Hstep.out
        have hm := rdM_less Hbad.out
        rw [← Hq1.out] at hm
        have hm2 := Hm.out.2
        refine ⟨(messageRF q1).2, xs ++ [xc], Value.slice A8 n8 c8, ts ++ [t], us ++ [(messageRF q1).1], k', h9, hX9, hZ9, hC9, hK.append (.cons hlk .nil), hG9, (show _ ∧ _ from ⟨Hm.out.1, hk1, by rw [List.length_append]; show _ + 1 + _ ≤ _; omega, by rw [i4, hk2]⟩)⟩
       case measure =>
        show rdMw w9 g < rdMw wr g
        rw [H9.out, hM.out]
        have hm := rdM_less Hbad.out
        rw [← Hq1.out] at hm
        have hm2 := Hm.out.2
        omega
      ·have em : (x.toList == [109, 101, 115, 115, 97, 103, 101]) = false := by rw [toList_is x wMessage [109, 101, 115, 115, 97, 103, 101] rfl]; simpa using hm
       by_cases hm2 : x = wEnum
       ·have em2 : (x.toList == [101, 110, 117, 109]) = true := by rw [toList_is x wEnum [101, 110, 117, 109] rfl]; simpa using hm2
        have Hstep := Lib.hid (types_enum (k := k) us Hlen.out Hbad.out (by rw [← Hx.out]; exact hm) (by rw [← Hx.out]; exact hm2) HI.out.1 HI.out.2.1)
        rw [← Hq1.out] at Hstep
        have Hm := Lib.hid (enum_m (r := q1) (by rw [Hq1.out]; exact HI.out.1.next.1))
        clear hm hm2
        go_upto_region 14 with fail
        clear em em2
        have hRd := h3.keep (Keep.drew _ _)
        have hXd := hX3.drew
        have hZd := hZ3.drew
        have hGd := below_drew hG3
        have hCd := hC3.kept (Keep.drew _ _)
        replace hbs : g + 2 ≤ w3.drew.heap.size := hbs
        have hS : (fun W' => World.cell? W' ⟨g + 1, 0, none⟩ = some v) w3.drew := hX3.drew.cell 0
        refine lateP_start (fun W' => World.cell? W' ⟨g + 1, 0, none⟩ = some v) (fun i => i != 7) (by kernel_rfl) ?_
        clear h3 hX3 hZ3 hG3 hC3
        generalize w3.drew = Wd at hRd hXd hZd hGd hCd hbs hS ⊢
        refine ppP 0 ?_
        try simp only [pu]
        refine tkP 1 hS ?_
        try simp only [pu]
        refine ppP 2 ?_
        try simp only [pu]
        refine lateP_one (i := 3) rfl (by kernel_rfl) (fun K hK => ?_)
        go_simp
        refine (renum_any _ g q1 w Wd hRd (Nat.lt_irrefl g) (fun _ h => Nat.lt_trans h hRd.lt) (by rw [Hq1.out]; exact HI.out.1.next.1) HN.out hGd (by omega)).mono ?_
        rintro e w5 ⟨vf, vg, vi, t, rfl, hOf, hrg, hri, hlk, h5, hg5⟩
        obtain ⟨F, p1, hvf, -⟩ := hOf.form
        subst hvf
        obtain ⟨G, p2, rfl, -, -⟩ := hrg.form
        obtain ⟨I, p3, rfl, -, -⟩ := hri.form
        obtain ⟨xc, hxc⟩ : ∃ xc : TypeC, xc = ⟨t.name, t.enum, F, t.fields.length, p1, G, t.gone.length, p2, I, t.items.length, p3⟩ := ⟨_, rfl⟩
        have Hrow : Hid (RowAt Wd.heap.size (fun y => Wd.heap.size ≤ y ∧ xc.fb ≠ some y) w5 xc t) := (show RowAt _ _ _ _ _ by rw [hxc]; exact ⟨rfl, rfl, hOf, hrg, hri⟩)
        have hX5 := hXd.grown hg5 (by intro e; injection e with e; omega)
        have hZ5 := hZd.grown hg5 (by intro e; injection e with e; omega)
        have hG5 := below_grown hGd hg5 hGd.size (fun g' e => by injection e with e; omega)
        have hC5 := hCd.kept (Keep.of_grown hg5 (fun k e hk => by injection e with e; omega))
        have hs5 : g + 2 ≤ w5.heap.size := Nat.le_trans hbs hg5.size
        replace hS : (fun W' => World.cell? W' ⟨g + 1, 0, none⟩ = some v) w5 := hX5.cell 0
        clear hXd hZd hGd hRd hOf hrg hri
        refine hK.out _ _ (fun _ _ => hS) ?_
        clear hK K
        try simp only [pu]
        refine lateP_one (i := 4) rfl (by kernel_rfl) (fun K hK => ?_)
        go_simp
        obtain ⟨cc, hcc⟩ : ∃ cc : List Value, cc = [.string t.name, .bool t.enum, .slice F t.fields.length p1, .slice G t.gone.length p2, .slice I t.items.length p3] := ⟨_, rfl⟩
        have hct : typeCells xc = cc := by rw [hxc, hcc]; rfl
        have hB7 := Box.new w5 40 cc
        have h7 := h5.keep (Keep.alloc _ w5 (.cells cc.toArray 40))
        have hX7 := hX5.alloc (.cells cc.toArray 40)
        have hZ7 := hZ5.alloc (.cells cc.toArray 40)
        have hG7 := hG5.alloc hG5.size (.cells cc.toArray 40)
        have hA7 := (Below.here w5).alloc (Nat.le_refl _) (.cells cc.toArray 40)
        have hO7 := hC5.row.alloc RTypeC.fair (.cells cc.toArray 40)
        have hl7 := hC5.len
        have ho7 : Ones cc := by rw [hcc]; exact Ones.of_all rfl
        have hn7 : cc.length = 5 := by rw [hcc]; rfl
        rw [hcc] at hB7 h7 hX7 hZ7 hG7 hA7 hO7
        replace hS : (fun W' => World.cell? W' ⟨g + 1, 0, none⟩ = some v) (w5.alloc (.cells [.string t.name, .bool t.enum, .slice F t.fields.length p1, .slice G t.gone.length p2, .slice I t.items.length p3].toArray 40)) := hX7.cell 0
        clear hX5 hZ5 hG5 hC5 h5
        refine hK.out _ _ (fun _ _ => hS) ?_
        clear hK K
        try simp only [pu]
        refine lateP_one (i := 5) rfl (by kernel_rfl) (fun K hK => ?_)
        obtain ⟨A7, c7, hv7, -⟩ := hO7.form
        refine step_append _ rfl (.tmp 59) (.tmp 62) rfl sl_types2 RTypeC.fair rfl rfl hO7 (Src.one (es := [.string t.name, .bool t.enum, .slice F t.fields.length p1, .slice G t.gone.length p2, .slice I t.items.length p3]) (y := xc) rfl (hcc ▸ ho7) (by show _ = typeCells xc; rw [hct, hcc]) hB7.lies) (NoT.lt _) (by have := HI.out.2.2.1; simp; omega) (Nat.le_trans hs5 hA7.size) ?_
        intro v8 w8 hO8 hg8 hv8
        obtain ⟨A8, c8, hv8', -⟩ := hO8.form
        subst hv8'
        have hC8 := hCd.push hg5 (show g < g + 2 by omega) hbs Hrow.out hA7 hO8 hg8 hv8
        generalize (xs ++ [xc]).length = n8 at hC8 ⊢
        have h8 := h7.grown hg8 (fun k e => by have := (hO7.lt e).1; exact ⟨fun (hk : k < g) => by omega, by omega⟩)
        have hX8 := hX7.grown hg8 (hX7.ne_own hO7 (by decide))
        have hZ8 := hZ7.grown hg8 (hZ7.ne_own hO7 (by decide))
        have hG8 := below_grown hG7 hg8 hG7.size (fun k e => by have := (hO7.lt e).1; omega)
        replace hS : (fun W' => World.cell? W' ⟨g + 1, 0, none⟩ = some v) w8 := hX8.cell 0
        clear hX7 hZ7 hG7 h7 hB7 hO7 hO8 hg8 hv8 hv7 hCd hg5 hA7 Hrow
        refine hK.out _ _ (fun _ _ => hS) ?_
        clear hK K
        try simp only [pu]
        refine ppP 6 ?_
        try simp only [pu]
        have f8 := hX8.frozen 0
        have c8' := hX8.cell 0
        have lX := hX8.lt
        have h9 := h8.keep (Keep.setCell w8 (a := ⟨g + 1, 0, none⟩) (Value.slice A8 n8 c8) (show ¬ (g + 1 < g ∨ g + 1 = g) by omega))
        have hC9 := hC8.kept (Keep.setCell w8 (a := ⟨g + 1, 0, none⟩) (Value.slice A8 n8 c8) (show ¬ g + 2 ≤ g + 1 by omega))
        have hX9 := hX8.set_ 0 (Value.slice A8 n8 c8)
        have hZ9 := hZ8.far (p := ⟨g + 1, 0, none⟩) (show w.heap.size ≠ g + 1 by omega) (Value.slice A8 n8 c8)
        have hG9 := hG8.setCell (p := ⟨g + 1, 0, none⟩) (show w.heap.size ≤ g + 1 by omega) (Value.slice A8 n8 c8)
        clear h8 hC8 hX8 hZ8 hG8
        refine lateP_one (i := 7) rfl (by kernel_rfl) (fun K hK => ?_)
        go_simp
        refine hK.out _ _ (fun h => absurd h (by decide)) ?_
        clear hK K
        try simp only [pu]
        refine lateP_done (by kernel_rfl) ?_ _
        clear hS f8 c8' lX
        generalize (World.setCell w8 _ _) = w9 at h9 hC9 hX9 hZ9 hG9 ⊢
        have H9 := Lib.hid h9.m
        go_wp2_with fail
        refine ⟨?_, ?measure⟩
        (repeat apply Exists.intro)
        refine ⟨?rel, rfl⟩
        case rel =>
         obtain ⟨i1, i2, i3, i4⟩ := HI.out
         obtain ⟨k', hk1, hk2⟩ := Hstep.out
         have hm := rdM_less Hbad.out
         rw [← Hq1.out] at hm
         have hm2 := Hm.out.2
         refine ⟨(enumRF q1).2, xs ++ [xc], Value.slice A8 n8 c8, ts ++ [t], us ++ [(enumRF q1).1], k', h9, hX9, hZ9, hC9, hK.append (.cons hlk .nil), hG9, (show _ ∧ _ from ⟨Hm.out.1, hk1, by rw [List.length_append]; show _ + 1 + _ ≤ _; omega, by rw [i4, hk2]⟩)⟩
        case measure =>
         show rdMw w9 g < rdMw wr g
         rw [H9.out, hM.out]
         have hm := rdM_less Hbad.out
         rw [← Hq1.out] at hm
         have hm2 := Hm.out.2
         omega
       ·have em2 : (x.toList == [101, 110, 117, 109]) = false := by rw [toList_is x wEnum [101, 110, 117, 109] rfl]; simpa using hm2
        have Hstep := Lib.hid (types_bad (k := k) us Hlen.out Hbad.out (by rw [← Hx.out]; exact hm) (by rw [← Hx.out]; exact hm2) HI.out.2.1)
        rw [← Hq1.out] at Hstep
        clear hm hm2
        have hRb := h3.set_ (Nat.lt_irrefl g) true
        have hXb := hX3.far (p := ⟨g, 1, none⟩) (show g + 1 ≠ g by omega) (.bool true)
        have hZb := hZ3.far (p := ⟨g, 1, none⟩) (show w.heap.size ≠ g by omega) (.bool true)
        have hGb := hG3.setCell (p := ⟨g, 1, none⟩) (show w.heap.size ≤ g by omega) (.bool true)
        have hCb := hC3.kept (Keep.setCell w3 (a := ⟨g, 1, none⟩) (.bool true) (show ¬ g + 2 ≤ g by omega))
        have Hmb := Lib.hid hRb.m
        have HRb := Lib.hid hRb
        obtain ⟨uv3, hbx3, -⟩ := h3
        have c13 : w3.cell? ⟨g, 1, none⟩ = some (.bool q1.bad) := hbx3.cell 1
        have f13 := hbx3.frozen 1
        have gl3 := hbx3.lt
        clear hbx3 hX3 hZ3 hG3 hC3 hRb
        go_wp2_with fail
        generalize (World.setCell w3 _ _) = w4 at hXb hZb hGb hCb Hmb HRb ⊢
        refine ⟨?_, ?measure⟩
        (repeat apply Exists.intro)
        refine ⟨?rel, rfl⟩
        case rel =>
         obtain ⟨i1, i2, i3, i4⟩ := HI.out
         refine ⟨⟨q1.l, true⟩, xs, v, ts, us, 0, HRb.out, hXb, hZb, hCb, hK, hGb, (show _ ∧ _ from ⟨(show Small q1 by rw [Hq1.out]; exact i1.next.1).told true, Nat.le_refl _, by show _ + 0 ≤ _; omega, by rw [i4, Hstep.out]⟩)⟩
        case measure =>
         show rdMw w4 g < rdMw wr g
         rw [Hmb.out, hM.out]
         have := rdM_less Hbad.out
         show 0 < rdM q
         omega
    ·have hlen' : ¬ (0 : Int) < (q.l.length : Int) := by omega
     have Hst : Hid (typesRF k q us = (us, q)) := by show _ = _; exact types_stop k us (fun h => hlen h.1)
     clear hlen
     cases hbad : q.bad with
     | true =>
      have He : Hid (p = ([], 1)) := by show _ = _; rw [Hr.out, HI.out.2.2.2, Hst.out, parseR, hbad]; rfl
      have hZ3 := hZ.set_ 0 (.slice none 0 0)
      have hG3 := hG.setCell (p := ⟨w.heap.size, 0, none⟩) (Nat.le_refl _) (.slice none 0 0)
      rw [hbad] at c1
      clear hbad
      go_wp2_with fail
      refine bodyPost_ret (parse_results hZ3 rfl rfl) rfl ?_
      exact ⟨_, by rw [He.out], by rw [He.out]; exact RSl.nil_, hG3⟩
     | false =>
      rw [hbad] at c1
      have Hbad := Lib.hid hbad
      clear hbad
      have Hus : Hid (p = parseR (us, q)) := by show _ = _; rw [Hr.out, HI.out.2.2.2, Hst.out]
      have hlen5 : ts.length ≤ 4001 := by have := HI.out.2.2.1; omega
      have hO := hC.row
      have hl1 := hC.len
      have x0 := hX.cell 0
      have xl := hX.lt
      go_wp2_with fail
      refine (sortStableRow_any (L := xs) _ _ v xs wr hO (by omega) (List.Perm.refl _)).mono ?_
      rintro e w3 ⟨rfl, ys, hyl, hyp, hO3, hg3, hys⟩
      obtain ⟨ts', hC3, hl', hmem, hsrt⟩ := hC.sorted hO3 hyp hg3 hys
      have hX3 := hX.grown hg3 (by intro e; have := (hO.lt e).1; omega)
      have hZ3 := hZ.grown hg3 (by intro e; have := (hO.lt e).1; omega)
      have hG3 := below_grown hG hg3 hG.size (fun k e => by have := (hO.lt e).1; omega)
      have Hshort : Hid (∀ t ∈ ts', ShortT t) := (show ∀ t ∈ ts', ShortT t from fun t ht => by
       obtain ⟨u, _, hu⟩ := hK.left t (hmem t ht)
       exact hu.2.2.2.2.2.2.2)
      have Hlike : Hid (us.length < 20 → All2 LikeT ts' (sortS ltType us)) := (show _ → _ from fun h => by
       rw [hsrt (by rw [hK.len]; exact h)]
       exact sortS_rel like_lt hK)
      have Hgood := Lib.hid (good_sorted2 (b := ts') (u := us) (by rw [hl', hK.len]) Hlike.out)
      obtain ⟨Av, cv, hv, hcv⟩ := hO3.form
      subst hv
      have hl3 := hC3.len
      have hl9 : ts'.length ≤ 4001 := by omega
      have HLEN := Lib.hid (show ys.length = ts'.length ∧ ts'.length ≤ 4001 from ⟨hl3, hl9⟩)
      have x3 := hX3.cell 0
      have xl3 := hX3.lt
      clear hyl hl1 hl3 hl9 hl' hlen5 x0 xl hO hC hX hZ hG c0 c1 z0 f0 zl hgl hg3 hO3 hyp hys hmem hsrt HR hM Hst HI hK hlen'
      go_wp2_with fail
      go_loopw [76] (fun i wr' => ∃ n : Nat, i = .int .i64 n ∧ n ≤ ys.length ∧ Box wr' (g + 1) 24 [.slice Av ys.length cv] ∧ Box wr' w.heap.size 24 [.slice none 0 0] ∧ ReadC (g + 2) wr' (.slice Av ys.length cv) ys (part (mendT (enumOf ts')) ts' n) ∧ Below w.heap.size w wr') (fun i _ => ys.length - (intOf i).toNat)
      case atStart => exact ⟨0, rfl, Nat.zero_le _, hX3, hZ3, by rw [part_zero]; exact hC3, hG3⟩
      case round =>
       clear hX3 hZ3 hC3 hG3 x3 xl3
       obtain ⟨n, rfl, hn, hX, hZ, hC, hG⟩ := hrel
       by_cases hlt : n < ys.length
       ·--[FIX
        have hn' : n < ts'.length := by have := HLEN.out; omega
        obtain ⟨gv, c', hv', -, hgvl, hly⟩ := hC.lies hlt
        injection hv' with hv1 hv2 hv3
        subst hv1 hv3
        obtain ⟨E, hE⟩ : ∃ E, E = enumOf ts' := ⟨_, rfl⟩
        rw [← hE] at hC ⊢
        obtain ⟨t0, ht0⟩ : ∃ t0, t0 = ts'[n] := ⟨_, rfl⟩
        have hpn : (part (mendT E) ts' n).set n (withF t0 (part (mendF E) t0.fields 0)) = part (mendT E) ts' n := by
         rw [part_zero, withF_self, ht0, ← part_at (mendT E) ts' hn', List.set_getElem_self]
        rw [← hpn] at hC
        have hfl := hC.flen hlt (by rw [List.length_set, part_len]; exact hn')
        have hfl2 : ys[n].f = t0.fields.length := by rw [hfl, List.getElem_set_self, part_zero]; rfl
        have q2 : wr.cell? ⟨gv, n * 5 + 2, none⟩ = some (.slice ys[n].F t0.fields.length ys[n].p) := by rw [← hfl2]; exact hly.at_ 2 rfl
        have x0 := hX.cell 0
        have xl := hX.lt
        have HE := Lib.hid hE
        have Ht0 := Lib.hid ht0
        have hfz : t0.fields.length ≤ 5000 := by rw [ht0]; exact (Hshort.out _ (List.getElem_mem hn')).2.1
        have e1 : IntKind.i64.wrap ((n : Int) + 1) = (n : Int) + 1 := IntWalk.i64_in _ (by have := HLEN.out; omega)
        have hlt' : (n : Int) < (ys.length : Int) := by omega
        have hnz : (0 : Int) ≤ (n : Int) := by omega
        obtain ⟨yF, hyF⟩ : ∃ yF, yF = ys[n].F := ⟨_, rfl⟩
        obtain ⟨yp, hyp⟩ : ∃ yp, yp = ys[n].p := ⟨_, rfl⟩
        rw [← hyF, ← hyp] at q2
        have HyF := Lib.hid hyF
        have Hyp := Lib.hid hyp
        clear hE ht0 hpn hfl hly hyF hyp
        go_wp2_with fail
        go_loopw [86] (fun i wi => ∃ k : Nat, i = .int .i64 k ∧ k ≤ t0.fields.length ∧ Box wi (g + 1) 24 [.slice (some ⟨gv, 0, none⟩) ys.length cv] ∧ Box wi w.heap.size 24 [.slice none 0 0] ∧ ReadC (g + 2) wi (.slice (some ⟨gv, 0, none⟩) ys.length cv) ys ((part (mendT E) ts' n).set n (withF t0 (part (mendF E) t0.fields k))) ∧ Below w.heap.size w wi) (fun i _ => t0.fields.length - (intOf i).toNat)
        case atStart => exact ⟨0, rfl, Nat.zero_le _, hX, hZ, hC, hG⟩
        case round =>
         clear hX hZ hC hG x0 xl q2 hgvl
         obtain ⟨k, rfl, hk, hX, hZ, hC, hG⟩ := hrel
         by_cases hkl : k < t0.fields.length
         ·--[FLD
          have hkL : k < (part (mendF E) t0.fields k).length := by rw [part_len]; exact hkl
          have hLk := part_at (mendF E) t0.fields hkl
          obtain ⟨L, hL⟩ : ∃ L, L = part (mendF E) t0.fields k := ⟨_, rfl⟩
          have hLl : L.length = t0.fields.length := by rw [hL, part_len]
          have hkL' : k < L.length := by omega
          have hLk' : L[k] = t0.fields[k] := by subst hL; exact hLk
          obtain ⟨f, hf⟩ : ∃ f, f = t0.fields[k] := ⟨_, rfl⟩
          rw [← hL] at hC
          rw [← hf] at hLk'
          obtain ⟨gF, hgF, hgFl, hgFb, hfy, -, hfc, hff⟩ := hC.fieldW hlt hkL'
          have hyF' : yF = some ⟨gF, 0, none⟩ := by rw [HyF.out]; exact hgF
          subst hyF'
          obtain ⟨gv2, c2, hv2, -, hgvl, hly⟩ := hC.lies hlt
          injection hv2 with hw1 hw2 hw3
          injection hw1 with hw1
          injection hw1 with hw1
          subst hw1 hw3
          have q2 : wr.cell? ⟨gv, n * 5 + 2, none⟩ = some (.slice (some ⟨gF, 0, none⟩) t0.fields.length yp) := by rw [Hyp.out, ← hLl, ← hfy, ← hgF]; exact hly.at_ 2 rfl
          have q3 : wr.cell? ⟨gF, k * 5 + 3, none⟩ = some (.int .i64 f.kind) := by have := hfc.at_ 3 rfl; rw [hLk'] at this; exact this
          have x0 := hX.cell 0
          have xl := hX.lt
          have e2 : IntKind.i64.wrap ((k : Int) + 1) = (k : Int) + 1 := IntWalk.i64_in _ (by omega)
          have hkl' : (k : Int) < (t0.fields.length : Int) := by omega
          have hkz : (0 : Int) ≤ (k : Int) := by omega
          have ff3 := hff (k * 5 + 3)
          have HC := Lib.hid hC
          have HL := Lib.hid hL
          have Hf := Lib.hid hf
          have HLk := Lib.hid hLk'
          have HgF := Lib.hid hgF
          clear hly hfc hff hC hL hf hLk hLk' hgF hkL hfy hw2 hv2
          by_cases hk0 : f.kind = 0
          ·--[KIND
           have hC2 := HC.out.kindW hlt hkL' HgF.out 5
           rw [HLk.out] at hC2
           obtain ⟨L5, hL5⟩ : ∃ L5, L5 = L.set k { f with kind := 5 } := ⟨_, rfl⟩
           rw [← hL5] at hC2
           have hX2 := hX.far (p := ⟨gF, k * 5 + 3, none⟩) (show g + 1 ≠ gF by omega) (.int .i64 5)
           have hZ2 := hZ.far (p := ⟨gF, k * 5 + 3, none⟩) (show w.heap.size ≠ gF by omega) (.int .i64 5)
           have hG2 := hG.setCell (p := ⟨gF, k * 5 + 3, none⟩) (show w.heap.size ≤ gF by omega) (.int .i64 5)
           rw [hk0] at q3
           have Hk0 := Lib.hid hk0
           clear hX hZ hG hk0
           go_upto_region 27 with fail
           clear q2 q3 ff3 x0 xl hgFl hgvl
           generalize (World.setCell wr _ _) = w2 at hC2 hX2 hZ2 hG2 ⊢
           have hl5 : L5.length = t0.fields.length := by rw [hL5, List.length_set]; exact hLl
           have hk5 : k < L5.length := by omega
           have hf5 : L5[k] = { f with kind := 5 } := by subst hL5; exact List.getElem_set_self hk5
           have hS : (fun W' => World.cell? W' ⟨g + 1, 0, none⟩ = some (.slice (some ⟨gv, 0, none⟩) ys.length cv) ∧ World.cell? W' ⟨gF, k * 5 + 2, none⟩ = some (.string f.type)) w2.drew := by
            refine ⟨hX2.drew.cell 0, ?_⟩
            obtain ⟨gF', hgF', -, -, -, -, hfc, -⟩ := hC2.fieldW hlt hk5
            have := HgF.out.symm.trans hgF'
            injection this with this
            injection this with this
            subst this
            rw [hf5] at hfc
            exact hfc.at_ 2 rfl
           have hbk := (hC2.kept (Keep.drew _ _)).book (by rw [List.length_set, part_len]; have := HLEN.out; omega) (part_short Hshort.out (by omega))
           have hfd := Lib.hid (find_any _ _ _ f.type _ hbk)
           have Hoe : Hid (E f.type = ((findT ((part (mendT E) ts' n).set n (withF t0 L5)) f.type).isSome && ((findT ((part (mendT E) ts' n).set n (withF t0 L5)) f.type).getD .zero).enum)) := by
            show _ = _
            have := part_enum hn' L5 f.type
            rw [← Ht0.out, ← HE.out] at this
            exact this.symm
           obtain ⟨rt, hrt0⟩ : ∃ rt, rt = findT ((part (mendT E) ts' n).set n (withF t0 L5)) f.type := ⟨_, rfl⟩
           rw [← hrt0] at hfd Hoe
           have Hrt : Hid (findT ((part (mendT E) ts' n).set n (withF t0 L5)) f.type = rt) := hrt0.symm
           clear hrt0
           obtain ⟨tt, htt⟩ : ∃ tt, tt = rt.getD .zero := ⟨_, rfl⟩
           obtain ⟨ok, hok⟩ : ∃ ok, ok = rt.isSome := ⟨_, rfl⟩
           rw [← htt, ← hok] at Hoe
           have Hok := Lib.hid hok
           have Htt := Lib.hid htt
           have hXd := hX2.drew
           have hZd := hZ2.drew
           have hGd := below_drew hG2
           have HCd := Lib.hid (hC2.kept (Keep.drew _ w2))
           have HL5 := Lib.hid hL5
           have Hf5 := Lib.hid hf5
           refine lateP_start (fun W' => World.cell? W' ⟨g + 1, 0, none⟩ = some (.slice (some ⟨gv, 0, none⟩) ys.length cv) ∧ World.cell? W' ⟨gF, k * 5 + 2, none⟩ = some (.string f.type)) (fun i => i != 10 && i != 11) (by kernel_rfl) ?_
           clear hX2 hZ2 hG2 hC2 hbk hok htt hL5 hf5
           generalize w2.drew = Wd at hXd hZd hGd HCd hfd hS ⊢
           refine tkP 0 hS ?_
           try simp only [pu]
           refine ppP 1 ?_
           try simp only [pu]
           refine ppP 2 ?_
           try simp only [pu]
           refine ppP 3 ?_
           try simp only [pu]
           refine tkP 4 hS ?_
           try simp only [pu]
           have hgS : g + 2 ≤ Wd.heap.size := by have := hXd.lt; omega
           have hBd := Below.here Wd
           refine lateP_two (i := 5) (j := 9) rfl rfl (by kernel_rfl) (fun K hK => ?_) (fun K hK => ?_)
           ·--[CALL1
            go_simp
            refine hfd.out.mono ?_
            rintro e w5 ⟨cs, rfl, hrt, hb5⟩
            rw [← Hok.out]
            rw [← Htt.out] at hrt
            obtain ⟨A1, k1, A2, k2, A3, k3, rfl, -, -, -⟩ := hrt.parts
            have hB5 := hb5
            replace hS : (fun W' => World.cell? W' ⟨g + 1, 0, none⟩ = some (.slice (some ⟨gv, 0, none⟩) ys.length cv) ∧ World.cell? W' ⟨gF, k * 5 + 2, none⟩ = some (.string f.type)) w5 := ⟨(hXd.below hb5 hXd.lt).cell 0, (World.cell?_of_block (a := ⟨gF, k * 5 + 2, none⟩) (hb5.block gF (World.block_lt_of_cell? _ _ hS.2))).trans hS.2⟩
            clear hb5 hrt hBd
            refine hK.out _ _ (fun _ _ => hS) ?_
            clear hK K
            try simp only [pu]
            refine ppP 6 ?_
            try simp only [pu]
            refine ppP 7 ?_
            try simp only [pu]
            refine ppP 8 ?_
            try simp only [pu]
            refine lateP_one (i := 9) rfl (by kernel_rfl) (fun K hK => ?_)
            go_simp
            have hY := Box.new w5 40 [.string ⟨#[]⟩, .bool false, .slice none 0 0, .slice none 0 0, .slice none 0 0]
            have hB6 := hB5.alloc hB5.size (.cells [.string ⟨#[]⟩, .bool false, .slice none 0 0, .slice none 0 0, .slice none 0 0].toArray 40)
            have hYd := hB5.size
            replace hS : (fun W' => World.cell? W' ⟨g + 1, 0, none⟩ = some (.slice (some ⟨gv, 0, none⟩) ys.length cv) ∧ World.cell? W' ⟨gF, k * 5 + 2, none⟩ = some (.string f.type)) (w5.alloc (.cells [.string ⟨#[]⟩, .bool false, .slice none 0 0, .slice none 0 0, .slice none 0 0].toArray 40)) := ⟨(hXd.below hB6 hXd.lt).cell 0, (World.cell?_of_block (a := ⟨gF, k * 5 + 2, none⟩) (Below.heap_alloc w5 _ gF (World.block_lt_of_cell? _ _ hS.2))).trans hS.2⟩
            clear hB5
            refine hK.out _ _ (fun _ _ => hS) ?_
            clear hK K
            try simp only [pu]
            generalize w5.heap.size = Y at hY hYd ⊢
            generalize (World.alloc w5 _) = w6 at hY hB6 hS ⊢
            obtain ⟨c0, c1, c2, c3, c4⟩ := hY.five
            have f0 := hY.frozen 0
            have f1 := hY.frozen 1
            have f2 := hY.frozen 2
            have f3 := hY.frozen 3
            have f4 := hY.frozen 4
            have ly := hY.lt
            have hB7 := below_setCells hYd [.string tt.name, .bool tt.enum, .slice A1 tt.fields.length k1, .slice A2 tt.gone.length k2, .slice A3 tt.items.length k3] 0 _ hB6
            have hY7 := hY.setCells [.string tt.name, .bool tt.enum, .slice A1 tt.fields.length k1, .slice A2 tt.gone.length k2, .slice A3 tt.items.length k3] rfl
            refine lateP_one (i := 10) rfl (by kernel_rfl) (fun K hK => ?_)
            go_simp
            refine hK.out _ _ (fun h => absurd h (by decide)) ?_
            clear hK K
            try simp only [pu]
            change anyP _ _ _ _ _ _ _ _ _ (Go.Proofs.YtfobdbhmfohfnaaGreatDoor.setCells w6 Y 0 [.string tt.name, .bool tt.enum, .slice A1 tt.fields.length k1, .slice A2 tt.gone.length k2, .slice A3 tt.items.length k3])
            clear c0 c1 c2 c3 c4 f0 f1 f2 f3 f4 ly hB6 hY hS
            generalize (Go.Proofs.YtfobdbhmfohfnaaGreatDoor.setCells w6 Y 0 _) = w7 at hB7 hY7 ⊢
            refine lateP_one (i := 11) rfl (by kernel_rfl) (fun K hK => ?_)
            go_simp
            refine hK.out _ _ (fun h => absurd h (by decide)) ?_
            clear hK K
            try simp only [pu]
            refine lateP_done (by kernel_rfl) ?_ _
            have hX7 := hXd.below hB7 hXd.lt
            have hZ7 := hZd.below hB7 hZd.lt
            have hG7 := below_via hGd hB7 hGd.size
            have hC7 := HCd.out.kept (Keep.of_below hB7)
            have y1 : w7.cell? ⟨Y, 1, none⟩ = some (.bool tt.enum) := hY7.cell 1
            have yl := hY7.lt
            obtain ⟨gF', hgF', hgl7, -, -, -, hfc, hff⟩ := hC7.fieldW hlt hk5
            have ege := HgF.out.symm.trans hgF'
            injection ege with ege
            injection ege with ege
            subst ege
            have q7 : w7.cell? ⟨gF, k * 5 + 3, none⟩ = some (.int .i64 5) := by have := hfc.at_ 3 rfl; rw [Hf5.out] at this; exact this
            have ff7 := hff (k * 5 + 3)
            have HC7 := Lib.hid hC7
            obtain ⟨ten, hten⟩ : ∃ ten, ten = tt.enum := ⟨_, rfl⟩
            rw [← hten] at y1 Hoe ⊢
            clear hY7 hfc hff hgF' hC7 hXd hZd hGd hB7 hten
            cases ok with
            | false =>
             have hdone : part (mendF E) t0.fields (k + 1) = L5 := by
              rw [HL5.out, ← part_succ (mendF E) t0.fields hkl, ← HL.out, ← Hf.out]
              congr 1
              unfold mendF
              rw [if_pos Hk0.out, if_neg (by rw [show E f.type = false from by rw [Hoe.out]; rfl]; simp)]
             have HC8 : Hid (ReadC (g + 2) w7 (.slice (some ⟨gv, 0, none⟩) ys.length cv) ys ((part (mendT E) ts' n).set n (withF t0 (part (mendF E) t0.fields (k + 1))))) := by show ReadC _ _ _ _ _; rw [hdone]; exact HC7.out
             clear hdone
             go_wp2_with fail
             go_roundw
             case rel => exact ⟨k + 1, by simp, by omega, hX7, hZ7, HC8.out, hG7⟩
             case measure => go_light; simp [intOf]; omega
            | true =>
             cases ten with
             | false =>
              have hdone : part (mendF E) t0.fields (k + 1) = L5 := by
               rw [HL5.out, ← part_succ (mendF E) t0.fields hkl, ← HL.out, ← Hf.out]
               congr 1
               unfold mendF
               rw [if_pos Hk0.out, if_neg (by rw [show E f.type = false from by rw [Hoe.out]; rfl]; simp)]
              have HC8 : Hid (ReadC (g + 2) w7 (.slice (some ⟨gv, 0, none⟩) ys.length cv) ys ((part (mendT E) ts' n).set n (withF t0 (part (mendF E) t0.fields (k + 1))))) := by show ReadC _ _ _ _ _; rw [hdone]; exact HC7.out
              clear hdone
              go_wp2_with fail
              go_roundw
              case rel => exact ⟨k + 1, by simp, by omega, hX7, hZ7, HC8.out, hG7⟩
              case measure => go_light; simp [intOf]; omega
             | true =>
              have hX8 := hX7.far (p := ⟨gF, k * 5 + 3, none⟩) (show g + 1 ≠ gF by omega) (.int .i64 4)
              have hZ8 := hZ7.far (p := ⟨gF, k * 5 + 3, none⟩) (show w.heap.size ≠ gF by omega) (.int .i64 4)
              have hG8 := hG7.setCell (p := ⟨gF, k * 5 + 3, none⟩) (show w.heap.size ≤ gF by omega) (.int .i64 4)
              have hC8 := HC7.out.kindW hlt hk5 HgF.out 4
              rw [Hf5.out] at hC8
              have hdone : part (mendF E) t0.fields (k + 1) = L5.set k { ({ f with kind := 5 } : FieldD) with kind := 4 } := by
               rw [HL5.out, List.set_set, ← part_succ (mendF E) t0.fields hkl, ← HL.out, ← Hf.out]
               congr 1
               unfold mendF
               rw [if_pos Hk0.out, Hoe.out]; rfl
              have HC8 : Hid (ReadC (g + 2) (w7.setCell ⟨gF, k * 5 + 3, none⟩ (.int .i64 4)) (.slice (some ⟨gv, 0, none⟩) ys.length cv) ys ((part (mendT E) ts' n).set n (withF t0 (part (mendF E) t0.fields (k + 1))))) := by show ReadC _ _ _ _ _; rw [hdone]; exact hC8
              clear hC8 hdone hX7 hZ7 hG7
              go_wp2_with fail
              go_roundw
              case rel => exact ⟨k + 1, by simp, by omega, hX8, hZ8, HC8.out, hG8⟩
              case measure => go_light; simp [intOf]; omega
           ·--[CALL2
            go_simp
            have hY := Box.new Wd 40 [.string ⟨#[]⟩, .bool false, .slice none 0 0, .slice none 0 0, .slice none 0 0]
            have hB5 := hBd.alloc hBd.size (.cells [.string ⟨#[]⟩, .bool false, .slice none 0 0, .slice none 0 0, .slice none 0 0].toArray 40)
            have hYd := Nat.le_refl Wd.heap.size
            have hfd2 := Lib.hid (find_any _ _ _ f.type _ ((HCd.out.kept (Keep.of_below hB5)).book (by rw [List.length_set, part_len]; have := HLEN.out; omega) (part_short Hshort.out (by omega))))
            rw [Hrt.out] at hfd2
            replace hS : (fun W' => World.cell? W' ⟨g + 1, 0, none⟩ = some (.slice (some ⟨gv, 0, none⟩) ys.length cv) ∧ World.cell? W' ⟨gF, k * 5 + 2, none⟩ = some (.string f.type)) (Wd.alloc (.cells [.string ⟨#[]⟩, .bool false, .slice none 0 0, .slice none 0 0, .slice none 0 0].toArray 40)) := ⟨(hXd.below hB5 hXd.lt).cell 0, (World.cell?_of_block (a := ⟨gF, k * 5 + 2, none⟩) (Below.heap_alloc Wd _ gF (World.block_lt_of_cell? _ _ hS.2))).trans hS.2⟩
            clear hBd
            refine hK.out _ _ (fun _ _ => hS) ?_
            clear hK K
            try simp only [pu]
            obtain ⟨Y, hYe⟩ : ∃ Y, Y = Wd.heap.size := ⟨_, rfl⟩
            rw [← hYe] at hY ⊢
            replace hYd : Wd.heap.size ≤ Y := Nat.le_of_eq hYe.symm
            clear hYe
            generalize (World.alloc Wd _) = w4 at hY hB5 hS hfd2 ⊢
            refine lateP_one (i := 5) rfl (by kernel_rfl) (fun K hK => ?_)
            go_simp
            refine hfd2.out.mono ?_
            rintro e w6 ⟨cs, rfl, hrt, hb6⟩
            rw [← Hok.out]
            rw [← Htt.out] at hrt
            obtain ⟨A1, k1, A2, k2, A3, k3, rfl, -, -, -⟩ := hrt.parts
            replace hY := hY.below hb6 hY.lt
            have hB6 := below_via hB5 hb6 hB5.size
            replace hS : (fun W' => World.cell? W' ⟨g + 1, 0, none⟩ = some (.slice (some ⟨gv, 0, none⟩) ys.length cv) ∧ World.cell? W' ⟨gF, k * 5 + 2, none⟩ = some (.string f.type)) w6 := ⟨(hXd.below hB6 hXd.lt).cell 0, (World.cell?_of_block (a := ⟨gF, k * 5 + 2, none⟩) (hb6.block gF (World.block_lt_of_cell? _ _ hS.2))).trans hS.2⟩
            clear hb6 hrt hB5
            refine hK.out _ _ (fun _ _ => hS) ?_
            clear hK K
            try simp only [pu]
            refine ppP 6 ?_
            try simp only [pu]
            refine ppP 7 ?_
            try simp only [pu]
            refine ppP 8 ?_
            try simp only [pu]
            obtain ⟨c0, c1, c2, c3, c4⟩ := hY.five
            have f0 := hY.frozen 0
            have f1 := hY.frozen 1
            have f2 := hY.frozen 2
            have f3 := hY.frozen 3
            have f4 := hY.frozen 4
            have ly := hY.lt
            have hB7 := below_setCells hYd [.string tt.name, .bool tt.enum, .slice A1 tt.fields.length k1, .slice A2 tt.gone.length k2, .slice A3 tt.items.length k3] 0 _ hB6
            have hY7 := hY.setCells [.string tt.name, .bool tt.enum, .slice A1 tt.fields.length k1, .slice A2 tt.gone.length k2, .slice A3 tt.items.length k3] rfl
            refine lateP_one (i := 10) rfl (by kernel_rfl) (fun K hK => ?_)
            go_simp
            refine hK.out _ _ (fun h => absurd h (by decide)) ?_
            clear hK K
            try simp only [pu]
            change anyP _ _ _ _ _ _ _ _ _ (Go.Proofs.YtfobdbhmfohfnaaGreatDoor.setCells w6 Y 0 [.string tt.name, .bool tt.enum, .slice A1 tt.fields.length k1, .slice A2 tt.gone.length k2, .slice A3 tt.items.length k3])
            clear c0 c1 c2 c3 c4 f0 f1 f2 f3 f4 ly hB6 hY hS
            generalize (Go.Proofs.YtfobdbhmfohfnaaGreatDoor.setCells w6 Y 0 _) = w7 at hB7 hY7 ⊢
            refine lateP_one (i := 11) rfl (by kernel_rfl) (fun K hK => ?_)
            go_simp
            refine hK.out _ _ (fun h => absurd h (by decide)) ?_
            clear hK K
            try simp only [pu]
            refine lateP_done (by kernel_rfl) ?_ _
            have hX7 := hXd.below hB7 hXd.lt
            have hZ7 := hZd.below hB7 hZd.lt
            have hG7 := below_via hGd hB7 hGd.size
            have hC7 := HCd.out.kept (Keep.of_below hB7)
            have y1 : w7.cell? ⟨Y, 1, none⟩ = some (.bool tt.enum) := hY7.cell 1
            have yl := hY7.lt
            obtain ⟨gF', hgF', hgl7, -, -, -, hfc, hff⟩ := hC7.fieldW hlt hk5
            have ege := HgF.out.symm.trans hgF'
            injection ege with ege
            injection ege with ege
            subst ege
            have q7 : w7.cell? ⟨gF, k * 5 + 3, none⟩ = some (.int .i64 5) := by have := hfc.at_ 3 rfl; rw [Hf5.out] at this; exact this
            have ff7 := hff (k * 5 + 3)
            have HC7 := Lib.hid hC7
            obtain ⟨ten, hten⟩ : ∃ ten, ten = tt.enum := ⟨_, rfl⟩
            rw [← hten] at y1 Hoe ⊢
            clear hY7 hfc hff hgF' hC7 hXd hZd hGd hB7 hten
            cases ok with
            | false =>
             have hdone : part (mendF E) t0.fields (k + 1) = L5 := by
              rw [HL5.out, ← part_succ (mendF E) t0.fields hkl, ← HL.out, ← Hf.out]
              congr 1
              unfold mendF
              rw [if_pos Hk0.out, if_neg (by rw [show E f.type = false from by rw [Hoe.out]; rfl]; simp)]
             have HC8 : Hid (ReadC (g + 2) w7 (.slice (some ⟨gv, 0, none⟩) ys.length cv) ys ((part (mendT E) ts' n).set n (withF t0 (part (mendF E) t0.fields (k + 1))))) := by show ReadC _ _ _ _ _; rw [hdone]; exact HC7.out
             clear hdone
             go_wp2_with fail
             go_roundw
             case rel => exact ⟨k + 1, by simp, by omega, hX7, hZ7, HC8.out, hG7⟩
             case measure => go_light; simp [intOf]; omega
            | true =>
             cases ten with
             | false =>
              have hdone : part (mendF E) t0.fields (k + 1) = L5 := by
               rw [HL5.out, ← part_succ (mendF E) t0.fields hkl, ← HL.out, ← Hf.out]
               congr 1
               unfold mendF
               rw [if_pos Hk0.out, if_neg (by rw [show E f.type = false from by rw [Hoe.out]; rfl]; simp)]
              have HC8 : Hid (ReadC (g + 2) w7 (.slice (some ⟨gv, 0, none⟩) ys.length cv) ys ((part (mendT E) ts' n).set n (withF t0 (part (mendF E) t0.fields (k + 1))))) := by show ReadC _ _ _ _ _; rw [hdone]; exact HC7.out
              clear hdone
              go_wp2_with fail
              go_roundw
              case rel => exact ⟨k + 1, by simp, by omega, hX7, hZ7, HC8.out, hG7⟩
              case measure => go_light; simp [intOf]; omega
             | true =>
              have hX8 := hX7.far (p := ⟨gF, k * 5 + 3, none⟩) (show g + 1 ≠ gF by omega) (.int .i64 4)
              have hZ8 := hZ7.far (p := ⟨gF, k * 5 + 3, none⟩) (show w.heap.size ≠ gF by omega) (.int .i64 4)
              have hG8 := hG7.setCell (p := ⟨gF, k * 5 + 3, none⟩) (show w.heap.size ≤ gF by omega) (.int .i64 4)
              have hC8 := HC7.out.kindW hlt hk5 HgF.out 4
              rw [Hf5.out] at hC8
              have hdone : part (mendF E) t0.fields (k + 1) = L5.set k { ({ f with kind := 5 } : FieldD) with kind := 4 } := by
               rw [HL5.out, List.set_set, ← part_succ (mendF E) t0.fields hkl, ← HL.out, ← Hf.out]
               congr 1
               unfold mendF
               rw [if_pos Hk0.out, Hoe.out]; rfl
              have HC8 : Hid (ReadC (g + 2) (w7.setCell ⟨gF, k * 5 + 3, none⟩ (.int .i64 4)) (.slice (some ⟨gv, 0, none⟩) ys.length cv) ys ((part (mendT E) ts' n).set n (withF t0 (part (mendF E) t0.fields (k + 1))))) := by show ReadC _ _ _ _ _; rw [hdone]; exact hC8
              clear hC8 hdone hX7 hZ7 hG7
              go_wp2_with fail
              go_roundw
              case rel => exact ⟨k + 1, by simp, by omega, hX8, hZ8, HC8.out, hG8⟩
              case measure => go_light; simp [intOf]; omega
          ·--[KEEP
           have hsame : part (mendF E) t0.fields (k + 1) = L := by rw [HL.out]; exact part_same _ _ hkl (by rw [← Hf.out]; unfold mendF; rw [if_neg hk0])
           have HS := Lib.hid hsame
           clear hsame
           go_wp2_with fail
           go_roundw
           case rel => exact ⟨k + 1, by simp, by omega, hX, hZ, by rw [HS.out]; exact HC.out, hG⟩
           case measure => go_light; simp [intOf]; omega
         ·--[FEND
          obtain rfl : k = t0.fields.length := by omega
          have hC2 : ReadC (g + 2) wr (.slice (some ⟨gv, 0, none⟩) ys.length cv) ys (part (mendT E) ts' (n + 1)) := by
           rw [part_all _ _ (Nat.le_refl _)] at hC
           rw [← part_succ (mendT E) ts' hn', ← Ht0.out]
           exact hC
          clear hC
          go_wp2_with fail
          go_roundw
          case rel => exact ⟨n + 1, by simp, by omega, hX, hZ, hC2, hG⟩
          case measure => go_light; simp [intOf]; omega
       ·--[GOOD
        obtain rfl : n = ys.length := by omega
        rw [part_all _ _ (by have := HLEN.out; omega), ← fixF_mend] at hC
        have hbk := hC.book (by rw [fix_len]; have := HLEN.out; omega) (fun t ht => by
         rw [fixF_mend] at ht
         obtain ⟨u, hu, rfl⟩ := List.mem_map.1 ht
         show (u.fields.map _).length ≤ 5000
         rw [List.length_map]; exact (Hshort.out u hu).2.1)
        have hbo : BookOk (fixF ts') := by
         intro t ht
         rw [fixF_mend] at ht
         obtain ⟨u, hu, rfl⟩ := List.mem_map.1 ht
         obtain ⟨h1, -, h2, h3⟩ := Hshort.out u hu
         refine ⟨by show u.name.size ≤ _; omega, fun f hf => ?_, fun x hx => by show x.name.size ≤ _; have := h3 x hx; omega⟩
         obtain ⟨f', hf', rfl⟩ := List.mem_map.1 hf
         have := h2 f' hf'
         have e1 : (mendF (enumOf ts') f').name = f'.name := by unfold mendF; split <;> rfl
         have e2 : (mendF (enumOf ts') f').type = f'.type := by unfold mendF; split <;> rfl
         unfold SizeOk
         rw [e1, e2]; omega
        have hgd := Lib.hid (good_any _ _ (fixF ts') wr hbk (HW.out.below hG) hbo)
        have HB := Lib.hid hbk
        have hlw := hC.row
        obtain ⟨ge, hge⟩ : ∃ ge, ge = goodF (fixF ts') := ⟨_, rfl⟩
        rw [← hge] at hgd
        have x0 := hX.cell 0
        have xl := hX.lt
        clear hC hbk hbo hlw hn hlt
        go_wp2_with fail
        refine hgd.out.mono ?_
        rintro e w5 ⟨rfl, hb5⟩
        have hX5 := hX.below hb5 hX.lt
        have hZ5 := hZ.below hb5 hZ.lt
        have hG5 := below_via hG hb5 hG.size
        have HB5 := Lib.hid ((RSl.fair RType.fair).below HB.out hb5)
        have x5 := hX5.cell 0
        have xl5 := hX5.lt
        have z5 := hZ5.cell 0
        have zf5 := hZ5.frozen 0
        have zl5 := hZ5.lt
        have Hge := Lib.hid hge
        clear x0 xl hX hZ hG hb5 hge
        by_cases hg0 : ge = 0
        ·have Hg0 := Lib.hid hg0
         have He : Hid (p = (fixF ts', 0)) := by
          show _ = _
          have h1 : goodF (fixF (sortS ltType us)) = 0 := by rw [← Hgood.out.1, ← Hge.out, Hg0.out]
          rw [Hus.out, parseR, Hbad.out, Hgood.out.2 h1, if_neg (by simp), if_neg (by rw [h1]; simp)]
         have hZ6 := hZ5.set_ 0 (.slice Av ys.length cv)
         have hG6 := hG5.setCell (p := ⟨w.heap.size, 0, none⟩) (Nat.le_refl _) (.slice Av ys.length cv)
         have HB6 := Lib.hid ((RSl.fair RType.fair).keep HB5.out (Keep.setCell w5 (a := ⟨w.heap.size, 0, none⟩) (.slice Av ys.length cv) (show ¬ g + 2 ≤ w.heap.size by omega)))
         subst hg0
         clear hX5 hZ5 hG5
         go_wp2_with fail
         refine bodyPost_ret (parse_results hZ6 rfl rfl) rfl ?_
         exact ⟨_, by rw [He.out], by rw [He.out]; exact (RSl.fair RType.fair).mono HB6.out (fun y hy _ => by have : g + 2 ≤ y := hy; omega), hG6⟩
        ·have He : Hid (p = ([], ge)) := by
          show _ = _
          have h1 : ¬ goodF (fixF (sortS ltType us)) = 0 := by rw [← Hgood.out.1, ← Hge.out]; exact hg0
          rw [Hus.out, parseR, Hbad.out, if_neg (by simp), if_pos h1, ← Hgood.out.1, ← Hge.out]
         have hZ6 := hZ5.set_ 0 (.slice none 0 0)
         have hG6 := hG5.setCell (p := ⟨w.heap.size, 0, none⟩) (Nat.le_refl _) (.slice none 0 0)
         clear hX5 hZ5 hG5
         go_wp2_with fail
         refine bodyPost_ret (parse_results hZ6 rfl rfl) rfl ?_
         exact ⟨_, by rw [He.out], by rw [He.out]; exact RSl.nil_, hG6⟩
end Go.Proofs.YtfobdbhmfohfnaaGreatDoor
