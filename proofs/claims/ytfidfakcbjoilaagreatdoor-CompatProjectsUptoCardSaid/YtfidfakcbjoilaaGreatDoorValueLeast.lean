/- The walks of value.least and value.leastOf. -/
import Derived.Deep.Light
import Derived.Test.YtfidfakcbjoilaaGreatDoorValueBuilt
set_option linter.all false
set_option maxRecDepth 100000
set_option maxHeartbeats 8000000
namespace Go.Proofs.YtfidfakcbjoilaaGreatDoor
open Go.RowKit
attribute [local go_sem ↓] Go.wp_at_zero Go.wp_at_succ
def ValPost (w : World) (v : ValueD) (e : Ending) (w' : World) : Prop := ∃ cs, e = .returned (.agg cs.toArray) ∧ RVal (New w) w' cs v ∧ Below w.heap.size w w'
def LeastOfAt (S : Nat → Prop) (vb : Value) (b : BookD) (k : Nat) : Prop := ∀ (f : FieldD) (w : World), RSl 5 96 RType S w [vb] b → fieldP b f → EndsP b k f →
 Calls Tryz.prog 86 #[.agg #[vb], .agg #[.int .i64 f.id, .string f.name, .string f.type, .int .i64 f.kind, .int .i64 f.rule]] w (ValPost w (leastOfF b k f))
def onesTo (t : TypeD) (k : Nat) : List FieldD := (t.fields.take k).filter fun g => decide (g.rule = 1)
theorem onesTo_all {t : TypeD} {k : Nat} (h : t.fields.length ≤ k) : onesTo t k = onesL t := by unfold onesTo onesL; rw [List.take_of_length_le h]
theorem onesTo_yes {t : TypeD} {k : Nat} (h : k < t.fields.length) (hr : t.fields[k].rule = 1) : onesTo t (k + 1) = onesTo t k ++ [t.fields[k]] := by
 unfold onesTo; rw [List.take_succ_eq_append_getElem h, List.filter_append]; simp [hr]
theorem onesTo_no {t : TypeD} {k : Nat} (h : k < t.fields.length) (hr : ¬ t.fields[k].rule = 1) : onesTo t (k + 1) = onesTo t k := by
 unfold onesTo; rw [List.take_succ_eq_append_getElem h, List.filter_append]; simp [hr]
theorem onesTo_len (t : TypeD) (k : Nat) : (onesTo t k).length ≤ t.fields.length := by
 unfold onesTo
 exact Nat.le_trans (List.length_filter_le _ _) (List.length_take_le' _ _)
theorem least_results {W : World} {a : Act} {g : Nat} {c0 c1 c2 c3 c4 : Value} (hb : Box W g 37 [c0, c1, c2, c3, c4]) (h4 : a.tmps.getD 4 undef = .pointer (some ⟨g, 0, none⟩)) :
  (results Tryz.f116 a.tmps).run Tryz.prog W = .ok (.agg #[c0, c1, c2, c3, c4]) W := by
 obtain ⟨e0, e1, e2, e3, e4⟩ := hb.five
 simp only [Array.getD_eq_getD_getElem?] at h4
 simp [results, Tryz.results116, go_sem, h4, e0, e1, e2, e3, e4]
theorem leastOf_results {W : World} {a : Act} {g : Nat} {c0 c1 c2 c3 c4 : Value} (hb : Box W g 37 [c0, c1, c2, c3, c4]) (h4 : a.tmps.getD 4 undef = .pointer (some ⟨g, 0, none⟩)) :
  (results Tryz.f86 a.tmps).run Tryz.prog W = .ok (.agg #[c0, c1, c2, c3, c4]) W := by
 obtain ⟨e0, e1, e2, e3, e4⟩ := hb.five
 simp only [Array.getD_eq_getD_getElem?] at h4
 simp [results, Tryz.results86, go_sem, h4, e0, e1, e2, e3, e4]
theorem least_step (S : Nat → Prop) (vb : Value) (b : BookD) (k : Nat) (H : LeastOfAt S vb b k) (cs : List Value) (t : TypeD) (w : World) (hb0 : RSl 5 96 RType S w [vb] b) (ht : RType S w cs t) (hm : MessageP b t) (he : ∀ f ∈ onesL t, EndsP b k f) :
  Calls Tryz.prog 116 #[.agg #[vb], .agg cs.toArray] w (ValPost w (leastTF b k t)) := by
 obtain ⟨A, cap, rfl, hlc, hlb⟩ := hb0.form
 obtain ⟨A1, k1, A2, k2, A3, k3, rfl, hf, hgn, hi⟩ := ht.parts
 have h5 : t.fields.length ≤ 5 := hm.1
 have HB := Lib.hid hb0
 have HF := Lib.hid hf
 have HH := Lib.hid H
 have HM := Lib.hid hm
 have HE := Lib.hid he
 clear hb0 ht hf hgn hi H hm he
 go_enter Tryz.func116, Tryz.ntmps116
 go_wp2_with fail
 go_loopw [12] (fun i wr => ∃ (n : Nat) (vi vl : Value), i = .int .i64 n ∧ n ≤ t.fields.length ∧ Rows2 (fun y => w.heap.size + 1 + 1 + 1 + 1 ≤ y) (w.heap.size + 1 + 1 + 1 + 1) wr (w.heap.size + 1 + 1 + 1) vi vl ((onesTo t n).map (·.id)) ((onesTo t n).map (leastOfF b k)) ∧
   Box wr (w.heap.size + 1 + 1 + 1) 37 [.int .i64 2, .int .i64 0, .string ⟨#[]⟩, vi, vl] ∧ Box wr (w.heap.size + 1 + 1) 37 [.int .i64 0, .int .i64 0, .string ⟨#[]⟩, .slice none 0 0, .slice none 0 0] ∧ Box wr w.heap.size 24 [.slice A b.length cap] ∧ Below w.heap.size w wr) (fun i _ => t.fields.length - (intOf i).toNat)
 case atStart =>
  obtain ⟨x1, x2, x3, x4, x5⟩ := boxes4 w [.slice A b.length cap] [.string t.name, .bool t.enum, .slice A1 t.fields.length k1, .slice A2 t.gone.length k2, .slice A3 t.items.length k3] [.int .i64 0, .int .i64 0, .string ⟨#[]⟩, .slice none 0 0, .slice none 0 0] [.int .i64 2, .int .i64 0, .string ⟨#[]⟩, .slice none 0 0, .slice none 0 0] 24 46 37 37
  exact ⟨0, .slice none 0 0, .slice none 0 0, rfl, by go_light; omega, Rows2.new _ _ _ _ (by go_light; omega) (by simp), x4, x3, x1, x5⟩
 case round =>
  obtain ⟨n, vi, vl, rfl, hn, hro, hbv, hbr, hbb, hb⟩ := hrel
  by_cases hlt : n < t.fields.length
  ·obtain ⟨g, o, rfl, hS, hg⟩ := HF.out.base (by go_light; omega)
   have hc := (HF.out.flat (enc := fieldCells) hlt).keep (Keep.of_below hb) hS
   have hyes := fun h => onesTo_yes hlt h
   have hno := fun h => onesTo_no hlt h
   have hfp : fieldP b t.fields[n] := msg_field HM.out (List.getElem_mem hlt)
   have hen : t.fields[n].rule = 1 → EndsP b k t.fields[n] := fun h => HE.out _ (onesL_mem.2 ⟨List.getElem_mem hlt, h⟩)
   obtain ⟨f0, hxe⟩ : ∃ x, x = t.fields[n] := ⟨_, rfl⟩
   rw [← hxe] at hc hyes hno hfp hen
   have hcall := fun W (h : RSl 5 96 RType S W [.slice A b.length cap] b) (h1 : f0.rule = 1) => HH.out f0 W h hfp (hen h1)
   obtain ⟨fid, fname, ftype, fkind, frule⟩ := f0
   have q0 : wr.cell? ⟨g, o + n * 5, none⟩ = some (.int .i64 fid) := hc.at_ 0 rfl
   have q1 : wr.cell? ⟨g, o + n * 5 + 1, none⟩ = some (.string fname) := hc.at_ 1 rfl
   have q2 : wr.cell? ⟨g, o + n * 5 + 2, none⟩ = some (.string ftype) := hc.at_ 2 rfl
   have q3 : wr.cell? ⟨g, o + n * 5 + 3, none⟩ = some (.int .i64 fkind) := hc.at_ 3 rfl
   have q4 : wr.cell? ⟨g, o + n * 5 + 4, none⟩ = some (.int .i64 frule) := hc.at_ 4 rfl
   have hgl : g < wr.heap.size := Nat.lt_of_lt_of_le hg hb.size
   have Hxe := Lib.hid hxe
   have Hyes := Lib.hid hyes
   have Hno := Lib.hid hno
   have Hcall := Lib.hid hcall
   dsimp only at Hyes Hno Hcall
   clear hc hxe hyes hno hfp hen hcall
   have hwa := hb.alloc hb.size (.cells #[.int .i64 fid, .string fname, .string ftype, .int .i64 fkind, .int .i64 frule] 55)
   have hrow := hro.alloc (.cells #[.int .i64 fid, .string fname, .string ftype, .int .i64 fkind, .int .i64 frule] 55)
   have hbvn := hbv.alloc (.cells #[.int .i64 fid, .string fname, .string ftype, .int .i64 fkind, .int .i64 frule] 55)
   have hbrn := hbr.alloc (.cells #[.int .i64 fid, .string fname, .string ftype, .int .i64 fkind, .int .i64 frule] 55)
   have hbbn := hbb.alloc (.cells #[.int .i64 fid, .string fname, .string ftype, .int .i64 fkind, .int .i64 frule] 55)
   have hxn : Box (wr.alloc (.cells #[.int .i64 fid, .string fname, .string ftype, .int .i64 fkind, .int .i64 frule] 55)) wr.heap.size 55 [.int .i64 fid, .string fname, .string ftype, .int .i64 fkind, .int .i64 frule] := Box.new wr _ _
   by_cases hr1 : frule = 1
   ·have Hon := Lib.hid (Hyes.out hr1)
    have Hc := Lib.hid (fun W h => Hcall.out W h hr1)
    have HBn := Lib.hid ((RSl.fair RType.fair).below HB.out hwa)
    have hrb : (frule == 1) = true := by simpa using hr1
    clear hr1 Hyes Hno Hcall hro hbv hbr hbb
    have hln : (onesTo t n).length ≤ 5 := Nat.le_trans (onesTo_len t n) h5
    obtain ⟨ids, hids⟩ : ∃ ids, ids = (onesTo t n).map (·.id) := ⟨_, rfl⟩
    obtain ⟨ls, hls⟩ : ∃ ls, ls = (onesTo t n).map (leastOfF b k) := ⟨_, rfl⟩
    have hidl : ids.length ≤ 5 := by rw [hids, List.length_map]; exact hln
    have hlsl : ls.length ≤ 5 := by rw [hls, List.length_map]; exact hln
    rw [← hids, ← hls] at hrow
    have Hids := Lib.hid hids
    have Hls := Lib.hid hls
    clear hids hls hln
    obtain ⟨⟨lk, ln, lt, li, ll⟩, hlf⟩ : ∃ x, x = leastOfF b k ⟨fid, fname, ftype, fkind, frule⟩ := ⟨_, rfl⟩
    rw [← hlf] at Hc
    have Hlf := Lib.hid hlf
    clear hlf
    go_wp2_with fail
    have hsz0 : wr.heap.size < (wr.alloc (.cells #[.int .i64 fid, .string fname, .string ftype, .int .i64 fkind, .int .i64 frule] 55)).heap.size := hxn.lt
    generalize hW0 : wr.alloc (.cells #[.int .i64 fid, .string fname, .string ftype, .int .i64 fkind, .int .i64 frule] 55) = W0 at *
    generalize hX : wr.heap.size = X at *
    clear hW0 hX
    have SK : ∀ W', Box W' (w.heap.size + 1 + 1 + 1) 37 [.int .i64 2, .int .i64 0, .string ⟨#[]⟩, vi, vl] → Box W' X 55 [.int .i64 fid, .string fname, .string ftype, .int .i64 fkind, .int .i64 frule] → Box W' w.heap.size 24 [.slice A b.length cap] →
      ((W'.cell? ⟨w.heap.size + 1 + 1 + 1, 3, none⟩ = some vi ∧ W'.cell? ⟨w.heap.size + 1 + 1 + 1, 4, none⟩ = some vl) ∧ (W'.cell? ⟨X, 0, none⟩ = some (.int .i64 fid) ∧ W'.cell? ⟨X, 1, none⟩ = some (.string fname) ∧ W'.cell? ⟨X, 2, none⟩ = some (.string ftype) ∧ W'.cell? ⟨X, 3, none⟩ = some (.int .i64 fkind) ∧ W'.cell? ⟨X, 4, none⟩ = some (.int .i64 frule)) ∧ W'.cell? ⟨w.heap.size, 0, none⟩ = some (.slice A b.length cap)) :=
     fun W' h1 h2 h3 => ⟨⟨h1.cell 3, h1.cell 4⟩, h2.five, h3.cell 0⟩
    have HSK := Lib.hid SK
    clear SK
    have hrow0 := hrow.drew
    have hS := HSK.out W0.drew hbvn.drew hxn.drew hbbn.drew
    refine late_start (fun W' => (W'.cell? ⟨w.heap.size + 1 + 1 + 1, 3, none⟩ = some vi ∧ W'.cell? ⟨w.heap.size + 1 + 1 + 1, 4, none⟩ = some vl) ∧ (W'.cell? ⟨X, 0, none⟩ = some (.int .i64 fid) ∧ W'.cell? ⟨X, 1, none⟩ = some (.string fname) ∧ W'.cell? ⟨X, 2, none⟩ = some (.string ftype) ∧ W'.cell? ⟨X, 3, none⟩ = some (.int .i64 fkind) ∧ W'.cell? ⟨X, 4, none⟩ = some (.int .i64 frule)) ∧ W'.cell? ⟨w.heap.size, 0, none⟩ = some (.slice A b.length cap)) 14 (by kernel_rfl) ?_
    refine tkL 0 hS ?_
    try simp only [pu]
    refine tkL 1 hS ?_
    try simp only [pu]
    refine tkL 2 hS ?_
    try simp only [pu]
    refine tkL 3 hS ?_
    try simp only [pu]
    refine tkL 6 hS ?_
    try simp only [pu]
    refine tkL 7 hS ?_
    try simp only [pu]
    refine tkL 8 hS ?_
    try simp only [pu]
    refine tkL 9 hS ?_
    try simp only [pu]
    refine late_one (i := 4) rfl (by kernel_rfl) (fun K hK => ?_)
    go_simp
    have hS := HSK.out _ (hbvn.drew.alloc (.cells #[.int .i64 fid] 3)) (hxn.drew.alloc _) (hbbn.drew.alloc _)
    refine hK.out _ _ (fun _ => hS) ?_
    clear hK K
    try simp only [pu]
    refine late_one (i := 5) rfl (by kernel_rfl) (fun K hK => ?_)
    refine step_append _ rfl (.tmp 20) (.tmp 23) rfl sl_ints RInt.fair rfl rfl ((hrow0.alloc _).ids) (Src.one (es := [.int .i64 fid]) (y := fid) rfl (Ones.of_all rfl) rfl (Lies.new _ _ _)) (NoT.lt _) (by go_light; simp; omega) (hrow0.alloc _).hb ?_
    intro v1 w1 ho1 hg1 hv1
    have hr1 := (hrow0.alloc _).push_id ho1 hg1 hv1
    have x1 := (hbvn.drew.alloc _).grown hg1 (hrow.nei (by go_light; omega))
    have x2 := (hxn.drew.alloc _).grown hg1 (hxn.ne_own hrow.ids (by decide))
    have x3 := (hbbn.drew.alloc _).grown hg1 (hrow.nei (by go_light; omega))
    have x4 := (hbrn.drew.alloc _).grown hg1 (hrow.nei (by go_light; omega))
    have hw1 := below_grown ((below_drew hwa).alloc (below_drew hwa).size _) hg1 (by go_light; have := hwa.size; simp; omega) (fun g' h => by go_light; have := (hrow.ilt h).1; omega)
    have hS := HSK.out _ x1 x2 x3
    refine hK.out _ _ (fun _ => hS) ?_
    clear hK K
    try simp only [pu]
    refine tkL 13 hS ?_
    try simp only [pu]
    refine late_one (i := 10) rfl (by kernel_rfl) (fun K hK => ?_)
    go_simp
    refine (Hc.out _ ((RSl.fair RType.fair).below HB.out hw1)).mono ?_
    rintro e w3 ⟨cs3, rfl, hr3, hb3⟩
    obtain ⟨B1, d1, B2, d2, rfl, -, -⟩ := hr3.parts
    have hrr := hr1.below hb3
    have y1 := x1.below hb3 x1.lt
    have y2 := x2.below hb3 x2.lt
    have y3 := x3.below hb3 x3.lt
    have y4 := x4.below hb3 x4.lt
    have hw3 := below_via hw1 hb3 hw1.size
    have hS := HSK.out _ y1 y2 y3
    refine hK.out _ _ (fun _ => hS) ?_
    clear hK K
    try simp only [pu]
    refine late_one (i := 11) rfl (by kernel_rfl) (fun K hK => ?_)
    go_simp
    have hS := HSK.out _ (y1.alloc (.cells #[.int .i64 lk, .int .i64 ln, .string lt, .slice B1 li.length d1, .slice B2 ll.length d2] 37)) (y2.alloc _) (y3.alloc _)
    refine hK.out _ _ (fun _ => hS) ?_
    clear hK K
    try simp only [pu]
    refine late_one (i := 12) rfl (by kernel_rfl) (fun K hK => ?_)
    refine step_append _ rfl (.tmp 26) (.tmp 30) rfl sl_vals RVal.fair rfl rfl ((hrr.alloc _).lrow) (Src.one (es := [.int .i64 lk, .int .i64 ln, .string lt, .slice B1 li.length d1, .slice B2 ll.length d2]) (y := .mk lk ln lt li ll) rfl (Ones.of_all rfl) (hr1.apart (RVal.fair.keep hr3 (Keep.alloc _ _ _)) (fun y hy _ => ⟨.inl hy, Nat.le_trans hr1.hb hy⟩)) (Lies.new _ _ _)) (fun _ h => h.2) (by go_light; simp; omega) (hrr.alloc _).hb ?_
    intro v5 w5 ho5 hg5 hv5
    have hr5 := (hrr.alloc _).push_l ho5 hg5 hv5
    have z1 := (y1.alloc _).grown hg5 (hrr.nel (by go_light; omega))
    have z2 := (y2.alloc _).grown hg5 (y2.ne_own hrr.l (by decide))
    have z3 := (y3.alloc _).grown hg5 (hrr.nel (by go_light; omega))
    have z4 := (y4.alloc _).grown hg5 (hrr.nel (by go_light; omega))
    have hw5 := below_grown (hw3.alloc hw3.size _) hg5 (by go_light; have := hw3.size; simp; omega) (fun g' h => by go_light; have := (hrr.llt h).1; omega)
    have hS := HSK.out _ z1 z2 z3
    have fz3 := z1.frozen 3
    have cz3 := z1.cell 3
    have fz4 := z1.frozen 4
    have cz4 := z1.cell 4
    have lz := z1.lt
    simp only [List.getElem?_cons_zero, List.getElem?_cons_succ] at cz3 cz4
    obtain ⟨R1, p1, rfl, _⟩ := hr5.ids.form
    obtain ⟨R2, p2, rfl, _⟩ := hr5.l.form
    refine hK.out _ _ (fun _ => hS) ?_
    clear hK K
    try simp only [pu]
    refine late_one (i := 14) rfl (by kernel_rfl) (fun K hK => ?_)
    go_simp
    refine hK.out _ _ (fun h => absurd h (by decide)) ?_
    clear hK K
    try simp only [pu]
    refine late_one (i := 15) rfl (by kernel_rfl) (fun K hK => ?_)
    go_simp
    refine hK.out _ _ (fun h => absurd h (by decide)) ?_
    clear hK K
    try simp only [pu]
    refine late_one (i := 16) rfl (by kernel_rfl) (fun K hK => ?_)
    go_simp
    refine hK.out _ _ (fun h => absurd h (by decide)) ?_
    clear hK K
    try simp only [pu]
    refine late_done (by kernel_rfl) ?_ _
    have hrz := (hr5.setCell 3 (.slice R1 (ids ++ [fid]).length p1)).setCell 4 (.slice R2 (ls ++ [ValueD.mk lk ln lt li ll]).length p2)
    have zz1 := (z1.set_ 3 (.slice R1 (ids ++ [fid]).length p1)).set_ 4 (.slice R2 (ls ++ [ValueD.mk lk ln lt li ll]).length p2)
    have zz3 := (z3.far (p := ⟨w.heap.size + 1 + 1 + 1, 3, none⟩) (by go_light; simp; omega) (.slice R1 (ids ++ [fid]).length p1)).far (p := ⟨w.heap.size + 1 + 1 + 1, 4, none⟩) (by go_light; simp; omega) (.slice R2 (ls ++ [ValueD.mk lk ln lt li ll]).length p2)
    have zz4 := (z4.far (p := ⟨w.heap.size + 1 + 1 + 1, 3, none⟩) (by simp) (.slice R1 (ids ++ [fid]).length p1)).far (p := ⟨w.heap.size + 1 + 1 + 1, 4, none⟩) (by simp) (.slice R2 (ls ++ [ValueD.mk lk ln lt li ll]).length p2)
    have hwz := (hw5.setCell (p := ⟨w.heap.size + 1 + 1 + 1, 3, none⟩) (by go_light; simp; omega) (.slice R1 (ids ++ [fid]).length p1)).setCell (p := ⟨w.heap.size + 1 + 1 + 1, 4, none⟩) (by go_light; simp; omega) (.slice R2 (ls ++ [ValueD.mk lk ln lt li ll]).length p2)
    simp only [List.set_cons_zero, List.set_cons_succ] at zz1
    simp only [List.length_append, List.length_cons, List.length_nil, Nat.zero_add] at hrz zz1 zz3 zz4 hwz
    have Hids2 : Hid (ids ++ [fid] = (onesTo t (n + 1)).map (·.id)) := by show _ = _; rw [Hon.out, List.map_append, ← Hids.out]; rfl
    have Hls2 : Hid (ls ++ [ValueD.mk lk ln lt li ll] = (onesTo t (n + 1)).map (leastOfF b k)) := by show _ = _; rw [Hon.out, List.map_append, ← Hls.out, Hlf.out]; rfl
    clear z1 z2 z3 z4 y1 y2 y3 y4 x1 x2 x3 x4 fz3 fz4 cz3 cz4 hw1 hw3 hw5 hg1 hg5 hv1 hv5 hr1 hrr hr5 ho1 ho5 hS hr3 hb3
    go_wp2_with fail
    go_roundw
    case rel => exact ⟨n + 1, _, _, by go_num, by go_light; omega, by rw [← Hids2.out, ← Hls2.out]; exact hrz, zz1, zz4, zz3, hwz⟩
    case measure => go_light; simp [intOf]; omega
   ·have Hon := Lib.hid (Hno.out hr1)
    have hrb : (frule == 1) = false := by simpa using hr1
    clear Hyes Hno Hcall hr1
    go_wp2_with fail
    go_roundw
    case rel => exact ⟨n + 1, vi, vl, by go_num, by go_light; omega, by rw [Hon.out]; exact hrow, hbvn, hbrn, hbbn, hwa⟩
    case measure => go_light; simp [intOf]; omega
  ·have hall := onesTo_all (t := t) (k := n) (by go_light; omega)
   rw [hall] at hro
   obtain ⟨R1, p1, rfl, _⟩ := hro.ids.form
   obtain ⟨R2, p2, rfl, _⟩ := hro.l.form
   have hln : (onesL t).length ≤ 5 := by rw [← hall]; exact Nat.le_trans (onesTo_len t n) h5
   obtain ⟨v, hv⟩ : ∃ v, v = leastTF b k t := ⟨_, rfl⟩
   have hrd : RVal (fun y => w.heap.size + 1 + 1 + 1 + 1 ≤ y) wr [.int .i64 2, .int .i64 0, .string ⟨#[]⟩, .slice R1 ((onesL t).map (·.id)).length p1, .slice R2 ((onesL t).map (leastOfF b k)).length p2] v := by
    rw [hv]
    exact hro.read (S := fun y => w.heap.size + 1 + 1 + 1 + 1 ≤ y) (fun y hy => hy) (fun y hy => hy) (by rw [List.length_map]; omega) (by rw [List.length_map]; omega) 2 0 ⟨#[]⟩
   rw [← hv]
   generalize ((onesL t).map (·.id)).length = L1 at *
   generalize ((onesL t).map (leastOfF b k)).length = L2 at *
   obtain ⟨e0, e1, e2, e3, e4⟩ := hbv.five
   obtain ⟨r0, r1, r2, r3, r4⟩ := hbr.five
   have g0 := hbr.frozen 0
   have g1 := hbr.frozen 1
   have g2 := hbr.frozen 2
   have g3 := hbr.frozen 3
   have g4 := hbr.frozen 4
   have hlr := hbr.lt
   have Hv := Lib.hid hv
   have Hrd := Lib.hid hrd
   clear hv hrd hro hall hln hbb
   go_wp2_with fail
   change bodyPost _ _ _ _ _ (setCells wr (w.heap.size + 1 + 1) 0 [.int .i64 2, .int .i64 0, .string ⟨#[]⟩, .slice R1 L1 p1, .slice R2 L2 p2])
   have hb5 := hbr.setCells [.int .i64 2, .int .i64 0, .string ⟨#[]⟩, .slice R1 L1 p1, .slice R2 L2 p2] rfl
   have hw5 := below_setCells (g := w.heap.size + 1 + 1) (by go_light; omega) [.int .i64 2, .int .i64 0, .string ⟨#[]⟩, .slice R1 L1 p1, .slice R2 L2 p2] 0 _ hb
   have hrd2 : RVal (New w) (setCells wr (w.heap.size + 1 + 1) 0 [.int .i64 2, .int .i64 0, .string ⟨#[]⟩, .slice R1 L1 p1, .slice R2 L2 p2]) [.int .i64 2, .int .i64 0, .string ⟨#[]⟩, .slice R1 L1 p1, .slice R2 L2 p2] v :=
    RVal.fair.mono (RVal.fair.keep Hrd.out (Keep.setCells (by go_light; omega) _ _ _)) (fun y hy _ => by unfold New; omega)
   generalize setCells wr (w.heap.size + 1 + 1) 0 _ = W at hb5 hw5 hrd2 ⊢
   exact bodyPost_ret (least_results hb5 rfl) rfl ⟨_, rfl, by rw [← Hv.out]; exact hrd2, hw5⟩
theorem leastOf_any (S : Nat → Prop) (vb : Value) (b : BookD) (hg : goodF b = 0) : ∀ (k : Nat), LeastOfAt S vb b k := by
 intro k f w hb0 hf he
 obtain ⟨A, cap, rfl, hlc, hlb⟩ := hb0.form
 have Hmsg := Lib.hid (fun h => field_msg hg hf h)
 have Hen := Lib.hid (fun h => field_enum hg hf h)
 have HB := Lib.hid hb0
 obtain ⟨v, hv⟩ : ∃ v, v = leastOfF b k f := ⟨_, rfl⟩
 rw [← hv]
 have h3 : f.kind = 3 → v = .mk 1 0 ⟨#[]⟩ [] [] := fun h => by rw [hv, leastOfF.eq_def, if_pos h]
 have h4 : f.kind = 4 → v = .mk 0 (((typeOf b f.type).items.head?.map (·.n)).getD 0) ⟨#[]⟩ [] [] := fun h => by rw [hv, leastOfF.eq_def, if_neg (by go_light; omega), if_pos h]
 have h0 : f.kind ≠ 3 → f.kind ≠ 4 → f.kind ≠ 5 → v = .zero := fun a b c => by rw [hv, leastOfF.eq_def, if_neg a, if_neg b, if_neg c]
 have h5 : f.kind = 5 → ∃ k', k = k' + 1 ∧ v = leastTF b k' (typeOf b f.type) ∧ ∀ g ∈ onesL (typeOf b f.type), EndsP b k' g := fun h => by
  have h1 := he h
  cases k with
  | zero => simp [leastF] at h1
  | succ k' =>
   obtain ⟨t, ht, _, hen, _⟩ := leastF_ends h1
   exact ⟨k', rfl, by rw [hv, leastOfF_msg h], by rw [typeOf, ht]; exact hen⟩
 have H3 := Lib.hid h3
 have H4 := Lib.hid h4
 have H0 := Lib.hid h0
 have H5 := Lib.hid h5
 obtain ⟨fid, fname, ftype, fkind, frule⟩ := f
 clear hb0 hf he hv h3 h4 h0 h5
 dsimp only at Hmsg Hen H3 H4 H0 H5
 obtain ⟨x1, x2, x3, x4⟩ := boxes3 w [.slice A b.length cap] [.int .i64 fid, .string fname, .string ftype, .int .i64 fkind, .int .i64 frule] [.int .i64 0, .int .i64 0, .string ⟨#[]⟩, .slice none 0 0, .slice none 0 0] 24 55 37
 go_enter Tryz.func86, Tryz.ntmps86
 go_wp2_with fail
 refine (find_any S _ b ftype _ ((RSl.fair RType.fair).below HB.out x4)).mono ?_
 rintro e w1 ⟨cs3, rfl, hr3, hb1⟩
 obtain ⟨B1, l1, B2, l2, B3, l3, rfl, -, -, hri⟩ := hr3.parts
 have hw1 := below_via x4 hb1 x4.size
 have y1 := x1.below hb1 x1.lt
 have y2 := x2.below hb1 x2.lt
 have y3 := x3.below hb1 x3.lt
 obtain ⟨ty, hty⟩ : ∃ ty, ty = (findT b ftype).getD TypeD.zero := ⟨_, rfl⟩
 have htf : typeOf b ftype = ty := hty.symm
 rw [← hty] at hr3 hri ⊢
 rw [htf] at Hmsg Hen H4 H5
 obtain ⟨ok, hok⟩ : ∃ ok, ok = (findT b ftype).isSome := ⟨_, rfl⟩
 rw [← hok]
 have hwz := hw1.alloc hw1.size (.cells #[.string ty.name, .bool ty.enum, .slice B1 ty.fields.length l1, .slice B2 ty.gone.length l2, .slice B3 ty.items.length l3] 46)
 have z1 := y1.alloc (.cells #[.string ty.name, .bool ty.enum, .slice B1 ty.fields.length l1, .slice B2 ty.gone.length l2, .slice B3 ty.items.length l3] 46)
 have z2 := y2.alloc (.cells #[.string ty.name, .bool ty.enum, .slice B1 ty.fields.length l1, .slice B2 ty.gone.length l2, .slice B3 ty.items.length l3] 46)
 have z3 := y3.alloc (.cells #[.string ty.name, .bool ty.enum, .slice B1 ty.fields.length l1, .slice B2 ty.gone.length l2, .slice B3 ty.items.length l3] 46)
 have z5 : Box (w1.alloc (.cells #[.string ty.name, .bool ty.enum, .slice B1 ty.fields.length l1, .slice B2 ty.gone.length l2, .slice B3 ty.items.length l3] 46)) w1.heap.size 46 [.string ty.name, .bool ty.enum, .slice B1 ty.fields.length l1, .slice B2 ty.gone.length l2, .slice B3 ty.items.length l3] := Box.new w1 _ _
 have HR3 := Lib.hid (RType.fair.keep (RType.fair.keep hr3 (Keep.of_below hb1)) (Keep.alloc S w1 (.cells #[.string ty.name, .bool ty.enum, .slice B1 ty.fields.length l1, .slice B2 ty.gone.length l2, .slice B3 ty.items.length l3] 46)))
 have HRI := Lib.hid ((RSl.fair RItem.fair).keep ((RSl.fair RItem.fair).keep hri (Keep.of_below hb1)) (Keep.alloc S w1 (.cells #[.string ty.name, .bool ty.enum, .slice B1 ty.fields.length l1, .slice B2 ty.gone.length l2, .slice B3 ty.items.length l3] 46)))
 have HBn := Lib.hid ((RSl.fair RType.fair).below HB.out hwz)
 have hty1 : w1.heap.size < (w1.alloc (.cells #[.string ty.name, .bool ty.enum, .slice B1 ty.fields.length l1, .slice B2 ty.gone.length l2, .slice B3 ty.items.length l3] 46)).heap.size := z5.lt
 obtain ⟨r0, r1, r2, r3, r4⟩ := y3.five
 have g0 := y3.frozen 0
 have g1 := y3.frozen 1
 have g2 := y3.frozen 2
 have g3 := y3.frozen 3
 have g4 := y3.frozen 4
 have hl3 := y3.lt
 have s0 : w1.cell? ⟨w.heap.size, 0, none⟩ = some (.slice A b.length cap) := y1.cell 0
 have hl1 := y1.lt
 obtain ⟨f0, f1, f2, f3, f4⟩ := y2.five
 have hl2 := y2.lt
 have Hty := Lib.hid hty
 clear hb1 x1 x2 x3 x4 hty hok htf hr3 hri
 by_cases h3 : fkind = 3
 ·have Hv := Lib.hid (H3.out h3)
  have b3 : (fkind == 3) = true := by simpa using h3
  clear h3
  go_wp2_with fail
  change bodyPost _ _ _ _ _ ((setCells w1 (w.heap.size + 1 + 1) 0 [.int .i64 1, .int .i64 0, .string ⟨#[]⟩, .slice none 0 0, .slice none 0 0]).alloc (.cells #[.string ty.name, .bool ty.enum, .slice B1 ty.fields.length l1, .slice B2 ty.gone.length l2, .slice B3 ty.items.length l3] 46))
  have hbz := (y3.setCells [.int .i64 1, .int .i64 0, .string ⟨#[]⟩, .slice none 0 0, .slice none 0 0] rfl).alloc (.cells #[.string ty.name, .bool ty.enum, .slice B1 ty.fields.length l1, .slice B2 ty.gone.length l2, .slice B3 ty.items.length l3] 46)
  have hwz5 := (below_setCells (g := w.heap.size + 1 + 1) (by go_light; omega) [.int .i64 1, .int .i64 0, .string ⟨#[]⟩, .slice none 0 0, .slice none 0 0] 0 _ hw1).alloc (below_setCells (g := w.heap.size + 1 + 1) (by go_light; omega) [.int .i64 1, .int .i64 0, .string ⟨#[]⟩, .slice none 0 0, .slice none 0 0] 0 _ hw1).size (.cells #[.string ty.name, .bool ty.enum, .slice B1 ty.fields.length l1, .slice B2 ty.gone.length l2, .slice B3 ty.items.length l3] 46)
  generalize (setCells _ (w.heap.size + 1 + 1) 0 _).alloc _ = W at hbz hwz5 ⊢
  exact bodyPost_ret (leastOf_results hbz rfl) rfl ⟨_, rfl, by rw [Hv.out]; exact RVal.plain 1 0 ⟨#[]⟩, hwz5⟩
 ·have b3 : (fkind == 3) = false := by simpa using h3
  by_cases h4 : fkind = 4
  ·obtain ⟨t4, q1, q2, q3, q4⟩ := Hen.out h4
   subst q2
   have hit : 0 < ty.items.length := by go_light; have := q4.2.1; omega
   obtain ⟨g, o, rfl, hS, hgl⟩ := HRI.out.base hit
   have hc := HRI.out.flat (enc := itemCells) hit
   have hh : (ty.items.head?.map (·.n)).getD 0 = ty.items[0].n := by rw [List.head?_eq_getElem?, List.getElem?_eq_getElem hit]; rfl
   have hv := H4.out h4
   rw [hh] at hv
   obtain ⟨m, hm⟩ : ∃ m, m = ty.items[0].n := ⟨_, rfl⟩
   have c1 : (w1.alloc (.cells #[.string ty.name, .bool ty.enum, .slice B1 ty.fields.length l1, .slice B2 ty.gone.length l2, .slice (some ⟨g, o, none⟩) ty.items.length l3] 46)).cell? ⟨g, o + 1, none⟩ = some (.int .i64 m) := by
    rw [hm]
    have := hc.at_ 1 rfl
    simpa using this
   rw [← hm] at hv
   have Hv := Lib.hid hv
   have b4 : (fkind == 4) = true := by simpa using h4
   clear h3 h4 hc hh hv hm q1 q3 q4
   go_wp2_with fail
   change bodyPost _ _ _ _ _ ((setCells w1 (w.heap.size + 1 + 1) 0 [.int .i64 0, .int .i64 m, .string ⟨#[]⟩, .slice none 0 0, .slice none 0 0]).alloc (.cells #[.string ty.name, .bool ty.enum, .slice B1 ty.fields.length l1, .slice B2 ty.gone.length l2, .slice (some ⟨g, o, none⟩) ty.items.length l3] 46))
   have hbz := (y3.setCells [.int .i64 0, .int .i64 m, .string ⟨#[]⟩, .slice none 0 0, .slice none 0 0] rfl).alloc (.cells #[.string ty.name, .bool ty.enum, .slice B1 ty.fields.length l1, .slice B2 ty.gone.length l2, .slice (some ⟨g, o, none⟩) ty.items.length l3] 46)
   have hwz5 := (below_setCells (g := w.heap.size + 1 + 1) (by go_light; omega) [.int .i64 0, .int .i64 m, .string ⟨#[]⟩, .slice none 0 0, .slice none 0 0] 0 _ hw1).alloc (below_setCells (g := w.heap.size + 1 + 1) (by go_light; omega) [.int .i64 0, .int .i64 m, .string ⟨#[]⟩, .slice none 0 0, .slice none 0 0] 0 _ hw1).size (.cells #[.string ty.name, .bool ty.enum, .slice B1 ty.fields.length l1, .slice B2 ty.gone.length l2, .slice (some ⟨g, o, none⟩) ty.items.length l3] 46)
   generalize (setCells _ (w.heap.size + 1 + 1) 0 _).alloc _ = W at hbz hwz5 ⊢
   exact bodyPost_ret (leastOf_results hbz rfl) rfl ⟨_, rfl, by rw [Hv.out]; exact RVal.plain 0 m ⟨#[]⟩, hwz5⟩
  ·have b4 : (fkind == 4) = false := by simpa using h4
   by_cases h5 : fkind = 5
   ·obtain ⟨k', rfl, hv, hen⟩ := H5.out h5
    obtain ⟨t5, q1, q2, q3, q4, q5, q6⟩ := Hmsg.out h5
    subst q2
    have hcall := fun W (h : RSl 5 96 RType S W [.slice A b.length cap] b) (h2 : RType S W [.string ty.name, .bool ty.enum, .slice B1 ty.fields.length l1, .slice B2 ty.gone.length l2, .slice B3 ty.items.length l3] ty) => least_step S _ b k' (leastOf_any S _ b hg k') _ ty W h h2 q6 hen
    rw [← hv] at hcall
    have Hcall := Lib.hid hcall
    have b5 : (fkind == 5) = true := by simpa using h5
    clear h3 h4 h5 hv hen hcall q1 q3 q4 q5 q6
    go_wp2_with fail
    refine (Hcall.out _ HBn.out HR3.out).mono ?_
    rintro e w3 ⟨cs5, rfl, hr5, hb5⟩
    have hw5 := below_via hwz hb5 hwz.size
    have z33 := z3.below hb5 z3.lt
    obtain ⟨⟨vk, vn, vs, vids, vls⟩, hvv⟩ : ∃ v', v' = v := ⟨_, rfl⟩
    rw [← hvv] at hr5
    obtain ⟨D1, e1, D2, e2, rfl, -, -⟩ := hr5.parts
    obtain ⟨r0', r1', r2', r3', r4'⟩ := z33.five
    have g0' := z33.frozen 0
    have g1' := z33.frozen 1
    have g2' := z33.frozen 2
    have g3' := z33.frozen 3
    have g4' := z33.frozen 4
    have hl3' := z33.lt
    have Hr5 := Lib.hid hr5
    have Hvv := Lib.hid hvv
    clear r0 r1 r2 r3 r4 g0 g1 g2 g3 g4 hr5 hvv
    go_wp2_with fail
    change bodyPost _ _ _ _ _ (setCells w3 (w.heap.size + 1 + 1) 0 [.int .i64 vk, .int .i64 vn, .string vs, .slice D1 vids.length e1, .slice D2 vls.length e2])
    have hbz := z33.setCells [.int .i64 vk, .int .i64 vn, .string vs, .slice D1 vids.length e1, .slice D2 vls.length e2] rfl
    have hwz5 := below_setCells (g := w.heap.size + 1 + 1) (by go_light; omega) [.int .i64 vk, .int .i64 vn, .string vs, .slice D1 vids.length e1, .slice D2 vls.length e2] 0 _ hw5
    have hrd : RVal (New w) (setCells w3 (w.heap.size + 1 + 1) 0 [.int .i64 vk, .int .i64 vn, .string vs, .slice D1 vids.length e1, .slice D2 vls.length e2]) [.int .i64 vk, .int .i64 vn, .string vs, .slice D1 vids.length e1, .slice D2 vls.length e2] (.mk vk vn vs vids vls) :=
     RVal.fair.mono (RVal.fair.keep Hr5.out (Keep.setCells (by unfold New; simp; omega) _ _ _)) (fun y hy _ => by unfold New at *; simp at hy; have := hw1.size; omega)
    generalize setCells w3 (w.heap.size + 1 + 1) 0 _ = W at hbz hwz5 hrd ⊢
    exact bodyPost_ret (leastOf_results hbz rfl) rfl ⟨_, rfl, by rw [← Hvv.out]; exact hrd, hwz5⟩
   ·have b5 : (fkind == 5) = false := by simpa using h5
    have Hv := Lib.hid (H0.out h3 h4 h5)
    clear h3 h4 h5
    go_wp2_with fail
    change bodyPost _ _ _ _ _ ((setCells w1 (w.heap.size + 1 + 1) 0 [.int .i64 0, .int .i64 0, .string ⟨#[]⟩, .slice none 0 0, .slice none 0 0]).alloc (.cells #[.string ty.name, .bool ty.enum, .slice B1 ty.fields.length l1, .slice B2 ty.gone.length l2, .slice B3 ty.items.length l3] 46))
    have hbz := (y3.setCells [.int .i64 0, .int .i64 0, .string ⟨#[]⟩, .slice none 0 0, .slice none 0 0] rfl).alloc (.cells #[.string ty.name, .bool ty.enum, .slice B1 ty.fields.length l1, .slice B2 ty.gone.length l2, .slice B3 ty.items.length l3] 46)
    have hwz5 := (below_setCells (g := w.heap.size + 1 + 1) (by go_light; omega) [.int .i64 0, .int .i64 0, .string ⟨#[]⟩, .slice none 0 0, .slice none 0 0] 0 _ hw1).alloc (below_setCells (g := w.heap.size + 1 + 1) (by go_light; omega) [.int .i64 0, .int .i64 0, .string ⟨#[]⟩, .slice none 0 0, .slice none 0 0] 0 _ hw1).size (.cells #[.string ty.name, .bool ty.enum, .slice B1 ty.fields.length l1, .slice B2 ty.gone.length l2, .slice B3 ty.items.length l3] 46)
    generalize (setCells _ (w.heap.size + 1 + 1) 0 _).alloc _ = W at hbz hwz5 ⊢
    exact bodyPost_ret (leastOf_results hbz rfl) rfl ⟨_, rfl, by rw [Hv.out]; exact RVal.plain 0 0 ⟨#[]⟩, hwz5⟩
 termination_by k => k
end Go.Proofs.YtfidfakcbjoilaaGreatDoor
