/- The walk of compat.project. -/
import Derived.Test.YtfidfakcbjoilaaGreatDoorLeastOfV
import Derived.Test.YtfidfakcbjoilaaGreatDoorValueLeast
import Derived.Test.YtfidfakcbjoilaaGreatDoorValCode
import Derived.Test.YtfidfakcbjoilaaGreatDoorLacks
import Derived.Test.YtfidfakcbjoilaaGreatDoorCLaws
set_option linter.all false
set_option maxRecDepth 100000
set_option maxHeartbeats 8000000
namespace Go.Proofs.YtfidfakcbjoilaaGreatDoor
open Go.RowKit
attribute [local go_sem ↓] Go.wp_at_zero Go.wp_at_succ
def EvenN : Nat → ValueD → Prop
 | 0, _ => True
 | d + 1, v => v.ids.length = v.l.length ∧ ∀ x ∈ v.l, EvenN d x
def projSel (b : BookD) (d : Nat) (fid fkind : Int) (ftype : ByteArray) (z : List (Int × ValueD)) : List (Int × ValueD) := (z.filter fun p => decide (p.1 = fid)).map fun p => (p.1, if fkind = 5 then projV b d (typeOf b ftype) p.2 else p.2)
theorem projSel_len (b : BookD) (d : Nat) (fid fkind : Int) (ftype : ByteArray) (z : List (Int × ValueD)) : (projSel b d fid fkind ftype z).length ≤ z.length := by
 unfold projSel
 rw [List.length_map]
 exact List.length_filter_le _ _
theorem projSel_step (b : BookD) (d : Nat) (fid fkind : Int) (ftype : ByteArray) {ids : List Int} {l : List ValueD} {j : Nat} (h1 : j < ids.length) (h2 : j < l.length) :
  projSel b d fid fkind ftype ((ids.zip l).take (j + 1)) = projSel b d fid fkind ftype ((ids.zip l).take j) ++ (if ids[j] = fid then [(ids[j], if fkind = 5 then projV b d (typeOf b ftype) l[j] else l[j])] else []) := by
 unfold projSel
 rw [List.take_succ_eq_append_getElem (by rw [List.length_zip]; omega), List.filter_append, List.map_append]
 congr 1
 by_cases h : ids[j] = fid <;> simp [h]
theorem projField_eq {b : BookD} {d : Nat} {ids : List Int} {l : List ValueD} (hl : ids.length = l.length) (fid fkind frule : Int) (fname ftype : ByteArray) :
  projField b d ids l ⟨fid, fname, ftype, fkind, frule⟩ = if (projSel b d fid fkind ftype (ids.zip l)).length = 0 ∧ frule = 1 then [(fid, leastOfF b 4 ⟨fid, fname, ftype, fkind, frule⟩)] else projSel b d fid fkind ftype (ids.zip l) := by
 have h : (projSel b d fid fkind ftype (ids.zip l)).length = 0 ↔ hasI ids fid = false := by
  unfold projSel
  rw [List.length_map, ← Bool.not_eq_true]
  have := hasI_filter (z := ids.zip l) (i := fid)
  rw [zip_fst _ _ hl] at this
  rw [this, List.length_eq_zero_iff]
  exact ⟨fun h h' => h' h, fun h => Classical.byContradiction h⟩
 unfold projField
 by_cases h1 : hasI ids fid = false ∧ frule = 1
 ·rw [if_pos h1, if_pos ⟨h.2 h1.1, h1.2⟩]
 ·rw [if_neg h1, if_neg (fun h2 => h1 ⟨h.1 h2.1, h2.2⟩)]; rfl
def projTo (b : BookD) (d : Nat) (t : TypeD) (ids : List Int) (l : List ValueD) (n : Nat) : List (Int × ValueD) := (t.fields.take n).flatMap (projField b d ids l)
theorem projTo_succ {b : BookD} {d : Nat} {t : TypeD} {ids : List Int} {l : List ValueD} {n : Nat} (h : n < t.fields.length) : projTo b d t ids l (n + 1) = projTo b d t ids l n ++ projField b d ids l t.fields[n] := by
 unfold projTo
 rw [List.take_succ_eq_append_getElem h, List.flatMap_append]
 simp
theorem projField_len {b : BookD} {d : Nat} {ids : List Int} {l : List ValueD} (hl : ids.length = l.length) (f : FieldD) : (projField b d ids l f).length ≤ 1 + ids.length := by
 obtain ⟨a, b', c, d', e⟩ := f
 rw [projField_eq hl]
 have := projSel_len b d a d' c (ids.zip l)
 rw [List.length_zip] at this
 split <;> simp <;> omega
theorem projTo_len {b : BookD} {d : Nat} {t : TypeD} {ids : List Int} {l : List ValueD} (hl : ids.length = l.length) : ∀ n, n ≤ t.fields.length → (projTo b d t ids l n).length ≤ n * (1 + ids.length)
 | 0, _ => by simp [projTo]
 | n + 1, h => by
  rw [projTo_succ (by omega), List.length_append]
  have := projTo_len (b := b) (d := d) (t := t) hl n (by omega)
  have := projField_len (b := b) (d := d) hl t.fields[n]
  rw [Nat.add_mul]; omega
theorem countL_len : ∀ l : List ValueD, l.length ≤ countL l
 | [] => by simp
 | x :: l => by
  rw [countL, List.length_cons]
  have := countV_pos x
  have := countL_len l
  omega
theorem keep_two {w a b : World} (h1 : Below w.heap.size w a) (h2 : Below w.heap.size w b) (hs : a.heap.size ≤ b.heap.size) : Keep (Old w) a b := ⟨hs, fun g hg _ => (h2.block g hg).trans (h1.block g hg).symm⟩
theorem project_results {W : World} {a : Act} {g : Nat} {c0 c1 c2 c3 c4 : Value} (hb : Box W g 37 [c0, c1, c2, c3, c4]) (h4 : a.tmps.getD 6 undef = .pointer (some ⟨g, 0, none⟩)) :
  (results Tryz.f31 a.tmps).run Tryz.prog W = .ok (.agg #[c0, c1, c2, c3, c4]) W := by
 obtain ⟨e0, e1, e2, e3, e4⟩ := hb.five
 simp only [Array.getD_eq_getD_getElem?] at h4
 simp [results, Tryz.results31, go_sem, h4, e0, e1, e2, e3, e4]
def ProjAt (S : Nat → Prop) (vb : Value) (b : BookD) (d : Nat) : Prop := ∀ (S' : Nat → Prop) (name : ByteArray) (cs : List Value) (v : ValueD) (w : World), depthV v ≤ d → RSl 5 96 RType S w [vb] b → RVal S' w cs v → Words w → noneB b name = false → EvenN d v → countV v ≤ 400 →
  Calls Tryz.prog 31 #[.agg #[vb], .string name, .agg cs.toArray] w (ValUn S' w (projV b d (typeOf b name) v))
theorem proj_succ (S : Nat → Prop) (vb : Value) (b : BookD) (hg : goodF b = 0) (hB : BookOk b) (d : Nat) (IH0 : ProjAt S vb b d) : ProjAt S vb b (d + 1) := by
 rintro S' name cs ⟨kind, nn, s, ids, l⟩ w hd hb0 hr hW hno hev hcn
 obtain ⟨A, cap, rfl, -, -⟩ := hb0.form
 obtain ⟨I1, d1, I2, d2, rfl, hri, hrl⟩ := hr.parts
 obtain ⟨ty, htf, hty, htm, -, hte⟩ := noneB_type hno
 have hm := good_msg hg htm hte
 have h5 : ty.fields.length ≤ 5 := hm.1
 have hll : ids.length = l.length := hev.1
 have hlen400 : l.length ≤ 400 := by
  have h1 := hcn
  rw [countV] at h1
  have := countL_len l
  omega
 have HB := Lib.hid hb0
 have HBo := Lib.hid ((RSl.fair RType.fair).old hb0)
 have HI := Lib.hid hri
 have HL := Lib.hid hrl
 have HM := Lib.hid hm
 have HG := Lib.hid hg
 have HW := Lib.hid hW
 have Hll := Lib.hid hll
 have Hev := Lib.hid hev.2
 have Hno := Lib.hid hno
 have HBk := Lib.hid hB
 have IH := Lib.hid IH0
 have Hd := Lib.hid (fun x (h : x ∈ l) => (show depthV x ≤ d from by have := depthL_mem' h; rw [depthV] at hd; omega))
 have Hc := Lib.hid (fun x (h : x ∈ l) => (show countV x ≤ 400 from by have := countL_mem' h; rw [countV] at hcn; omega))
 have hlen : ∀ n, n ≤ ty.fields.length → (projTo b d ty ids l n).length ≤ 2005 := fun n hn => by
  have := projTo_len (b := b) (d := d) (t := ty) hll n hn
  have : n * (1 + ids.length) ≤ 5 * 401 := Nat.mul_le_mul (by omega) (by omega)
  omega
 have HLen := Lib.hid hlen
 have Hpv : Hid (projV b (d + 1) (typeOf b name) (.mk kind nn s ids l) = msgV ((projTo b d ty ids l ty.fields.length).map (·.1)) ((projTo b d ty ids l ty.fields.length).map (·.2))) := by
  show _ = _
  rw [hty, projV]
  unfold projTo
  rw [List.take_length]
  rfl
 have Hty := Lib.hid hty
 have HTf : Hid ((findT b name).getD .zero = ty) := by show _ = _; rw [htf]; rfl
 obtain ⟨r, hrr⟩ : ∃ r, r = projV b (d + 1) (typeOf b name) (.mk kind nn s ids l) := ⟨_, rfl⟩
 rw [← hrr] at Hpv ⊢
 obtain ⟨x1, x2, x3, x4⟩ := boxes3 w [.slice A b.length cap] [.int .i64 kind, .int .i64 nn, .string s, .slice I1 ids.length d1, .slice I2 l.length d2] [.int .i64 0, .int .i64 0, .string ⟨#[]⟩, .slice none 0 0, .slice none 0 0] 24 37 37
 clear hb0 hr hri hrl hW hno hev hcn htf hty htm hte hm hll hg hd hlen hrr IH0
 have z1 := x1.cell 0
 have l1 := x1.lt
 go_enter Tryz.func31, Tryz.ntmps31
 go_wp2_with fail
 refine (find_any (Old w) _ b name _ ((RSl.fair RType.fair).below HBo.out x4)).mono ?_
 rintro e w1 ⟨cs3, rfl, hr3, hb1⟩
 rw [HTf.out] at hr3
 replace hr3 := RType.fair.below hr3 hb1
 obtain ⟨A1, k1, A2, k2, A3, k3, rfl, hf, -, -⟩ := hr3.parts
 have hw1 := below_via x4 hb1 x4.size
 have y1 := x1.below hb1 x1.lt
 have y2 := x2.below hb1 x2.lt
 have y3 := x3.below hb1 x3.lt
 have hsz : w.heap.size + 1 + 1 < w1.heap.size := y3.lt
 have HF := Lib.hid hf
 have Hw1 := Lib.hid hw1
 clear hr3 hf x1 x2 x3 x4 z1 l1 hb1
 go_wp2_with fail
 go_loopw [28] (fun i wr => ∃ (n : Nat) (vi vl : Value), i = .int .i64 n ∧ n ≤ ty.fields.length ∧ Rows2 (fun y => w1.heap.size + 1 + 1 ≤ y ∨ (S' y ∧ y < w.heap.size)) (w1.heap.size + 1 + 1) wr (w1.heap.size + 1) vi vl ((projTo b d ty ids l n).map (·.1)) ((projTo b d ty ids l n).map (·.2)) ∧
   Box wr (w1.heap.size + 1) 37 [.int .i64 2, .int .i64 0, .string ⟨#[]⟩, vi, vl] ∧ (Box wr (w.heap.size + 1 + 1) 37 [.int .i64 0, .int .i64 0, .string ⟨#[]⟩, .slice none 0 0, .slice none 0 0] ∧ Box wr (w.heap.size + 1) 37 [.int .i64 kind, .int .i64 nn, .string s, .slice I1 ids.length d1, .slice I2 l.length d2] ∧ Box wr w.heap.size 24 [.slice A b.length cap]) ∧ Below w.heap.size w wr) (fun i _ => ty.fields.length - (intOf i).toNat)
 case atStart =>
  have x5 := hw1.alloc hw1.size (.cells #[.string ty.name, .bool ty.enum, .slice A1 ty.fields.length k1, .slice A2 ty.gone.length k2, .slice A3 ty.items.length k3] 46)
  have x6 : Box ((w1.alloc (.cells [.string ty.name, .bool ty.enum, .slice A1 ty.fields.length k1, .slice A2 ty.gone.length k2, .slice A3 ty.items.length k3].toArray 46)).alloc (.cells #[.int .i64 2, .int .i64 0, .string ⟨#[]⟩, .slice none 0 0, .slice none 0 0] 37)) (w1.heap.size + 1) 37 [.int .i64 2, .int .i64 0, .string ⟨#[]⟩, .slice none 0 0, .slice none 0 0] := by
   have := Box.newB x5 37 [.int .i64 2, .int .i64 0, .string ⟨#[]⟩, .slice none 0 0, .slice none 0 0]
   simpa using this
  exact ⟨0, .slice none 0 0, .slice none 0 0, rfl, Nat.zero_le _, by simpa [projTo] using Rows2.new _ _ _ _ (Nat.lt_succ_self _) (by simp), x6, ⟨(y3.alloc _).alloc _, (y2.alloc _).alloc _, (y1.alloc _).alloc _⟩, x5.alloc x5.size _⟩
 case round =>
  obtain ⟨n, vi, vl, rfl, hn, hro, zG, ⟨zR, zV, zB⟩, hb⟩ := hrel
  clear y1 y2 y3 hw1
  by_cases hlt : n < ty.fields.length
  ·--[RND
   obtain ⟨g, o, rfl, hS0, hgw⟩ := HF.out.base (by omega)
   have hc := (HF.out.flat (enc := fieldCells) hlt).keep (keep_two Hw1.out hb (by have := hro.hb; go_light; omega)) hS0
   have hfp : fieldP b ty.fields[n] := msg_field HM.out (List.getElem_mem hlt)
   have hfo : fieldOf ty ty.fields[n].id = some ty.fields[n] := fieldOf_mem HM.out (List.getElem_mem hlt)
   have hsucc := projTo_succ (b := b) (d := d) (t := ty) (ids := ids) (l := l) hlt
   have hl1 := HLen.out n (by omega)
   have hl2 := HLen.out (n + 1) (by omega)
   obtain ⟨f0, hxe⟩ : ∃ x, x = ty.fields[n] := ⟨_, rfl⟩
   rw [← hxe] at hc hfp hsucc hfo
   obtain ⟨fid, fname, ftype, fkind, frule⟩ := f0
   dsimp only at hfo
   have q0 : wr.cell? ⟨g, o + n * 5, none⟩ = some (.int .i64 fid) := hc.at_ 0 rfl
   have q1 : wr.cell? ⟨g, o + n * 5 + 1, none⟩ = some (.string fname) := hc.at_ 1 rfl
   have q2 : wr.cell? ⟨g, o + n * 5 + 2, none⟩ = some (.string ftype) := hc.at_ 2 rfl
   have q3 : wr.cell? ⟨g, o + n * 5 + 3, none⟩ = some (.int .i64 fkind) := hc.at_ 3 rfl
   have q4 : wr.cell? ⟨g, o + n * 5 + 4, none⟩ = some (.int .i64 frule) := hc.at_ 4 rfl
   have hgl : g < wr.heap.size := Nat.lt_of_lt_of_le hgw (by have := hro.hb; go_light; omega)
   obtain ⟨P0, hP0⟩ : ∃ P, P = projTo b d ty ids l n := ⟨_, rfl⟩
   rw [← hP0] at hro hl1 hsucc
   rw [projField_eq Hll.out] at hsucc
   have Hsucc := Lib.hid hsucc
   have Hl2 := Lib.hid hl2
   have Hfp := Lib.hid hfp
   have Hfo := Lib.hid hfo
   have hlsel := projSel_len b d fid fkind ftype (ids.zip l)
   rw [List.length_zip] at hlsel
   have hsl : ∀ j, (projSel b d fid fkind ftype ((ids.zip l).take j)).length ≤ 400 := fun j => by
    have := projSel_len b d fid fkind ftype ((ids.zip l).take j)
    rw [List.length_take, List.length_zip] at this
    omega
   have Hsl := Lib.hid hsl
   clear hc hxe hfp hfo hsucc hP0 hl2 hsl
   have hw := hb.alloc hb.size (.cells #[.int .i64 fid, .string fname, .string ftype, .int .i64 fkind, .int .i64 frule] 55)
   have hR := hro.alloc (.cells #[.int .i64 fid, .string fname, .string ftype, .int .i64 fkind, .int .i64 frule] 55)
   have zX : Box (wr.alloc (.cells #[.int .i64 fid, .string fname, .string ftype, .int .i64 fkind, .int .i64 frule] 55)) wr.heap.size 55 [.int .i64 fid, .string fname, .string ftype, .int .i64 fkind, .int .i64 frule] := Box.new wr _ _
   replace zG := zG.alloc (.cells #[.int .i64 fid, .string fname, .string ftype, .int .i64 fkind, .int .i64 frule] 55)
   replace zR := zR.alloc (.cells #[.int .i64 fid, .string fname, .string ftype, .int .i64 fkind, .int .i64 frule] 55)
   replace zV := zV.alloc (.cells #[.int .i64 fid, .string fname, .string ftype, .int .i64 fkind, .int .i64 frule] 55)
   replace zB := zB.alloc (.cells #[.int .i64 fid, .string fname, .string ftype, .int .i64 fkind, .int .i64 frule] 55)
   have hXG : (w1.heap.size + 1) < wr.heap.size := by have := hro.hb; go_light; omega
   clear hro hb
   have v3 : (wr.alloc (.cells #[.int .i64 fid, .string fname, .string ftype, .int .i64 fkind, .int .i64 frule] 55)).cell? ⟨w.heap.size + 1, 3, none⟩ = some (.slice I1 ids.length d1) := zV.cell 3
   have hlv := zV.lt
   go_wp2_with fail
   clear q0 q1 q2 q3 q4 v3 hlv
   generalize hWW : wr.alloc (.cells #[.int .i64 fid, .string fname, .string ftype, .int .i64 fkind, .int .i64 frule] 55) = W0 at *
   have hXl : wr.heap.size < W0.heap.size := zX.lt
   generalize hXX : wr.heap.size = X at *
   clear hWW hXX
   go_loopw [12, 35] (fun c i wi => ∃ (j : Nat) (vi vl : Value), c = .int .i64 ((projSel b d fid fkind ftype ((ids.zip l).take j)).length : Nat) ∧ i = .int .i64 j ∧ j ≤ ids.length ∧ Rows2 (fun y => w1.heap.size + 1 + 1 ≤ y ∨ (S' y ∧ y < w.heap.size)) (w1.heap.size + 1 + 1) wi (w1.heap.size + 1) vi vl ((P0 ++ projSel b d fid fkind ftype ((ids.zip l).take j)).map (·.1)) ((P0 ++ projSel b d fid fkind ftype ((ids.zip l).take j)).map (·.2)) ∧
    Box wi (w1.heap.size + 1) 37 [.int .i64 2, .int .i64 0, .string ⟨#[]⟩, vi, vl] ∧ (Box wi (w.heap.size + 1 + 1) 37 [.int .i64 0, .int .i64 0, .string ⟨#[]⟩, .slice none 0 0, .slice none 0 0] ∧ Box wi (w.heap.size + 1) 37 [.int .i64 kind, .int .i64 nn, .string s, .slice I1 ids.length d1, .slice I2 l.length d2] ∧ Box wi w.heap.size 24 [.slice A b.length cap]) ∧ Box wi X 55 [.int .i64 fid, .string fname, .string ftype, .int .i64 fkind, .int .i64 frule] ∧ Below w.heap.size w wi) (fun _ i _ => ids.length - (intOf i).toNat)
   case atStart => exact ⟨0, _, _, by simp [projSel], rfl, Nat.zero_le _, by simpa [projSel] using hR, zG, ⟨zR, zV, zB⟩, zX, hw⟩
   case round =>
    clear hR zG zR zV zB zX hw
    obtain ⟨j, vi, vl, rfl, rfl, hj, hR, zG, ⟨zR, zV, zB⟩, zX, hw⟩ := hrel
    by_cases hjl : j < ids.length
    ·--[ONE
     have hjk : j < l.length := by have := Hll.out; omega
     obtain ⟨ig, io, rfl, hSi, hgi⟩ := HI.out.base (by omega)
     obtain ⟨lg, lo, rfl, hSl, hlgw⟩ := HL.out.base (by omega)
     have hci := (HI.out.flat (enc := fun x : Int => [.int .i64 x]) hjl).keep (Keep.of_below hw) hSi
     obtain ⟨es, _, hrx, hlies⟩ := HL.out.lies hjk
     have hsel := projSel_step b d fid fkind ftype hjl hjk
     have hxm := List.getElem_mem hjk
     obtain ⟨idj, hid⟩ : ∃ id, id = ids[j] := ⟨_, rfl⟩
     obtain ⟨x, hx⟩ : ∃ x, x = l[j] := ⟨_, rfl⟩
     rw [← hid] at hci hsel
     rw [← hx] at hrx hsel hxm
     have hdx := Hd.out x hxm
     have hcx := Hc.out x hxm
     have hex := Hev.out x hxm
     obtain ⟨xk, xn, xs, xi, xl⟩ := x
     obtain ⟨D1, e1, D2, e2, rfl, _, _⟩ := hrx.parts
     have HXw := Lib.hid (RVal.fair.mono hrx (T := fun y => S' y ∧ y < w.heap.size) (fun y hy hl => ⟨hy, hl⟩))
     have hlk := hlies.keep (Keep.of_below hw) hSl
     obtain ⟨Sj, hSj⟩ : ∃ S, S = projSel b d fid fkind ftype ((ids.zip l).take j) := ⟨_, rfl⟩
     have hS2 := Hsl.out j
     rw [← hSj] at hR hsel hS2
     rw [← hSj]
     have q0 : wr.cell? ⟨ig, io + j, none⟩ = some (.int .i64 idj) := by have := hci.at_ 0 rfl; simpa using this
     have hgil : ig < wr.heap.size := Nat.lt_of_lt_of_le hgi hw.size
     have c0 := zX.cell 0
     have c3 := zX.cell 3
     have hlX := zX.lt
     simp only [List.getElem?_cons_zero, List.getElem?_cons_succ] at c0 c3
     clear hci hrx hlies hid hx hSj hxm
     by_cases heq : idj = fid
     ·--[EQ
      subst heq
      rw [if_pos rfl] at hsel
      have Hsel := Lib.hid hsel
      have t0 : wr.cell? ⟨lg, lo + j * 5, none⟩ = some (.int .i64 xk) := hlk.at_ 0 rfl
      have t1 : wr.cell? ⟨lg, lo + j * 5 + 1, none⟩ = some (.int .i64 xn) := hlk.at_ 1 rfl
      have t2 : wr.cell? ⟨lg, lo + j * 5 + 2, none⟩ = some (.string xs) := hlk.at_ 2 rfl
      have t3 : wr.cell? ⟨lg, lo + j * 5 + 3, none⟩ = some (.slice D1 xi.length e1) := hlk.at_ 3 rfl
      have t4 : wr.cell? ⟨lg, lo + j * 5 + 4, none⟩ = some (.slice D2 xl.length e2) := hlk.at_ 4 rfl
      have hgl2 : lg < wr.heap.size := Nat.lt_of_lt_of_le hlgw hw.size
      have v4 : wr.cell? ⟨w.heap.size + 1, 4, none⟩ = some (.slice (some ⟨lg, lo, none⟩) l.length d2) := zV.cell 4
      have hlv := zV.lt
      have zQ : Box (wr.alloc (.cells #[.int .i64 xk, .int .i64 xn, .string xs, .slice D1 xi.length e1, .slice D2 xl.length e2] 37)) wr.heap.size 37 [.int .i64 xk, .int .i64 xn, .string xs, .slice D1 xi.length e1, .slice D2 xl.length e2] := Box.new wr _ _
      have hnv : vl.ownBlock ≠ some wr.heap.size := fun e => by have := (hR.llt e).2; omega
      have hXB : w.heap.size + 1 + 1 < wr.heap.size := zR.lt
      have hGl := zG.lt
      have hXQ : X < wr.heap.size := zX.lt
      have hR2 := hR.alloc (.cells #[.int .i64 xk, .int .i64 xn, .string xs, .slice D1 xi.length e1, .slice D2 xl.length e2] 37)
      have hRL := hR.low.alloc (.cells #[.int .i64 xk, .int .i64 xn, .string xs, .slice D1 xi.length e1, .slice D2 xl.length e2] 37)
      replace zG := zG.alloc (.cells #[.int .i64 xk, .int .i64 xn, .string xs, .slice D1 xi.length e1, .slice D2 xl.length e2] 37)
      replace zR := zR.alloc (.cells #[.int .i64 xk, .int .i64 xn, .string xs, .slice D1 xi.length e1, .slice D2 xl.length e2] 37)
      replace zV := zV.alloc (.cells #[.int .i64 xk, .int .i64 xn, .string xs, .slice D1 xi.length e1, .slice D2 xl.length e2] 37)
      replace zB := zB.alloc (.cells #[.int .i64 xk, .int .i64 xn, .string xs, .slice D1 xi.length e1, .slice D2 xl.length e2] 37)
      replace zX := zX.alloc (.cells #[.int .i64 xk, .int .i64 xn, .string xs, .slice D1 xi.length e1, .slice D2 xl.length e2] 37)
      replace hw := hw.alloc hw.size (.cells #[.int .i64 xk, .int .i64 xn, .string xs, .slice D1 xi.length e1, .slice D2 xl.length e2] 37)
      have hapx : RVal (fun y => Apart (fun y => w1.heap.size + 1 + 1 ≤ y ∨ (S' y ∧ y < w.heap.size)) (w1.heap.size + 1) vi vl y ∧ y < (wr.alloc (.cells #[.int .i64 xk, .int .i64 xn, .string xs, .slice D1 xi.length e1, .slice D2 xl.length e2] 37)).heap.size) (wr.alloc (.cells #[.int .i64 xk, .int .i64 xn, .string xs, .slice D1 xi.length e1, .slice D2 xl.length e2] 37)) [.int .i64 xk, .int .i64 xn, .string xs, .slice D1 xi.length e1, .slice D2 xl.length e2] (.mk xk xn xs xi xl) := hR.apart (w := wr.alloc (.cells #[.int .i64 xk, .int .i64 xn, .string xs, .slice D1 xi.length e1, .slice D2 xl.length e2] 37)) (RVal.fair.keep HXw.out (Keep.of_below hw)) (fun y hy _ => ⟨.inr ⟨by go_light; have := hy.2; omega, by go_light; have := hy.2; omega⟩, .inr hy⟩)
      have Hapx := Lib.hid hapx
      have hQb := hR.hb
      have hnvi : vi.ownBlock ≠ some wr.heap.size := fun e => by have := (hR.ilt e).2; omega
      clear hsel hapx hlk
      go_upto_if 51 with fail
      clear q0 c0 c3 t0 t1 t2 t3 t4 v4 hlv hgl2 hgil hlX
      replace hR := hR2
      generalize wr.alloc (.cells #[.int .i64 xk, .int .i64 xn, .string xs, .slice D1 xi.length e1, .slice D2 xl.length e2] 37) = V at zQ zG zR zV zB zX hw hR hR2 hRL Hapx ⊢
      have hQl := zQ.lt
      generalize wr.heap.size = Q at zQ hnv hXB hGl hQb hQl hnvi hRL hXQ ⊢
      clear hR2
      go_cut [] from 51 to 56 (fun wx => ∃ (zk zn : Int) (zs : ByteArray) (zi : List Int) (zl : List ValueD) (Z1 : Option Addr) (y1 : Nat) (Z2 : Option Addr) (y2 : Nat), Hid (ValueD.mk zk zn zs zi zl = if fkind = 5 then projV b d (typeOf b ftype) (.mk xk xn xs xi xl) else .mk xk xn xs xi xl) ∧ RVal (fun y => Apart (fun y => w1.heap.size + 1 + 1 ≤ y ∨ (S' y ∧ y < w.heap.size)) (w1.heap.size + 1) vi vl y ∧ y < wx.heap.size) wx [.int .i64 zk, .int .i64 zn, .string zs, .slice Z1 zi.length y1, .slice Z2 zl.length y2] (.mk zk zn zs zi zl) ∧ Rows2 (fun y => w1.heap.size + 1 + 1 ≤ y ∨ (S' y ∧ y < w.heap.size)) (w1.heap.size + 1 + 1) wx (w1.heap.size + 1) vi vl ((P0 ++ Sj).map (·.1)) ((P0 ++ Sj).map (·.2)) ∧ Box wx (w1.heap.size + 1) 37 [.int .i64 2, .int .i64 0, .string ⟨#[]⟩, vi, vl] ∧ (Box wx (w.heap.size + 1 + 1) 37 [.int .i64 0, .int .i64 0, .string ⟨#[]⟩, .slice none 0 0, .slice none 0 0] ∧ Box wx (w.heap.size + 1) 37 [.int .i64 kind, .int .i64 nn, .string s, .slice (some ⟨ig, io, none⟩) ids.length d1, .slice (some ⟨lg, lo, none⟩) l.length d2] ∧ Box wx w.heap.size 24 [.slice A b.length cap]) ∧ Box wx X 55 [.int .i64 idj, .string fname, .string ftype, .int .i64 fkind, .int .i64 frule] ∧ Box wx Q 37 [.int .i64 zk, .int .i64 zn, .string zs, .slice Z1 zi.length y1, .slice Z2 zl.length y2] ∧ Below w.heap.size w wx)
      case first =>
       by_cases hk5 : fkind = 5
       ·--[F5
        have hkb : (fkind == 5) = true := by simpa using hk5
        have s0 : V.cell? ⟨w.heap.size, 0, none⟩ = some (.slice A b.length cap) := zB.cell 0
        have sl0 := zB.lt
        have s2 : V.cell? ⟨X, 2, none⟩ = some (.string ftype) := zX.cell 2
        have slX := zX.lt
        obtain ⟨u0, u1, u2, u3, u4⟩ := zQ.five
        have hnone : noneB b ftype = false := by
         obtain ⟨t2, e1, e2, _, _, e5, _⟩ := field_msg HG.out Hfp.out hk5
         unfold noneB
         rw [e1]
         simpa using e5
        have Hk5 := Lib.hid hk5
        have hcall := IH.out (fun y => S' y ∧ y < w.heap.size) ftype [.int .i64 xk, .int .i64 xn, .string xs, .slice D1 xi.length e1, .slice D2 xl.length e2] (.mk xk xn xs xi xl) V hdx ((RSl.fair RType.fair).below HB.out hw) (RVal.fair.keep HXw.out (Keep.of_below hw)) (HW.out.below hw) hnone hex hcx
        obtain ⟨⟨pk, pn, ps, pi, pl⟩, hpe⟩ : ∃ p, p = projV b d (typeOf b ftype) (.mk xk xn xs xi xl) := ⟨_, rfl⟩
        rw [← hpe] at hcall
        have Hpe := Lib.hid hpe
        have Hcall := Lib.hid hcall
        clear hk5 hnone hcall hpe
        go_wp2_with fail
        refine Hcall.out.mono ?_
        rintro e w5 ⟨cs5, rfl, hr5, hb5⟩
        obtain ⟨E1, f1, E2, f2, rfl, -, -⟩ := hr5.parts
        have hnU : ¬ Un (fun y => S' y ∧ y < w.heap.size) V Q := by
         rintro (h | h)
         ·have := h.2; omega
         ·omega
        have hrel : Hid (RVal (fun y => Apart (fun y => w1.heap.size + 1 + 1 ≤ y ∨ (S' y ∧ y < w.heap.size)) (w1.heap.size + 1) vi vl y ∧ y < (setCells w5 Q 0 [.int .i64 pk, .int .i64 pn, .string ps, .slice E1 pi.length f1, .slice E2 pl.length f2]).heap.size) (setCells w5 Q 0 [.int .i64 pk, .int .i64 pn, .string ps, .slice E1 pi.length f1, .slice E2 pl.length f2]) [.int .i64 pk, .int .i64 pn, .string ps, .slice E1 pi.length f1, .slice E2 pl.length f2] (.mk pk pn ps pi pl)) := hR.apart (RVal.fair.keep hr5 (Keep.setCells hnU [.int .i64 pk, .int .i64 pn, .string ps, .slice E1 pi.length f1, .slice E2 pl.length f2] 0 w5)) (fun y hy _ => by
         rcases hy with hy | hy
         ·exact ⟨.inr ⟨by have := hy.2; omega, by have := hy.2; omega⟩, .inr hy⟩
         ·exact ⟨.inl hy, .inl (by have := hR.hb; omega)⟩)
        have zQ5 := zQ.below hb5 zQ.lt
        have hrow : Hid (Rows2 (fun y => w1.heap.size + 1 + 1 ≤ y ∨ (S' y ∧ y < w.heap.size)) (w1.heap.size + 1 + 1) (setCells w5 Q 0 [.int .i64 pk, .int .i64 pn, .string ps, .slice E1 pi.length f1, .slice E2 pl.length f2]) (w1.heap.size + 1) vi vl ((P0 ++ Sj).map (·.1)) ((P0 ++ Sj).map (·.2))) := ((hRL.below hb5).farCells hnvi hnv (fun h => absurd h.2 (Nat.lt_irrefl _)) [.int .i64 pk, .int .i64 pn, .string ps, .slice E1 pi.length f1, .slice E2 pl.length f2] 0).up (fun y h => h.1)
        have hbx : Hid (Box (setCells w5 Q 0 [.int .i64 pk, .int .i64 pn, .string ps, .slice E1 pi.length f1, .slice E2 pl.length f2]) (w1.heap.size + 1) 37 [.int .i64 2, .int .i64 0, .string ⟨#[]⟩, vi, vl] ∧ (Box (setCells w5 Q 0 [.int .i64 pk, .int .i64 pn, .string ps, .slice E1 pi.length f1, .slice E2 pl.length f2]) (w.heap.size + 1 + 1) 37 [.int .i64 0, .int .i64 0, .string ⟨#[]⟩, .slice none 0 0, .slice none 0 0] ∧ Box (setCells w5 Q 0 [.int .i64 pk, .int .i64 pn, .string ps, .slice E1 pi.length f1, .slice E2 pl.length f2]) (w.heap.size + 1) 37 [.int .i64 kind, .int .i64 nn, .string s, .slice (some ⟨ig, io, none⟩) ids.length d1, .slice (some ⟨lg, lo, none⟩) l.length d2] ∧ Box (setCells w5 Q 0 [.int .i64 pk, .int .i64 pn, .string ps, .slice E1 pi.length f1, .slice E2 pl.length f2]) w.heap.size 24 [.slice A b.length cap]) ∧ Box (setCells w5 Q 0 [.int .i64 pk, .int .i64 pn, .string ps, .slice E1 pi.length f1, .slice E2 pl.length f2]) X 55 [.int .i64 idj, .string fname, .string ftype, .int .i64 fkind, .int .i64 frule] ∧ Box (setCells w5 Q 0 [.int .i64 pk, .int .i64 pn, .string ps, .slice E1 pi.length f1, .slice E2 pl.length f2]) Q 37 [.int .i64 pk, .int .i64 pn, .string ps, .slice E1 pi.length f1, .slice E2 pl.length f2] ∧ Below w.heap.size w (setCells w5 Q 0 [.int .i64 pk, .int .i64 pn, .string ps, .slice E1 pi.length f1, .slice E2 pl.length f2])) :=
         ⟨(zG.below hb5 zG.lt).farCells (by omega) _ _, ⟨(zR.below hb5 zR.lt).farCells (by omega) _ _, (zV.below hb5 zV.lt).farCells (by omega) _ _, (zB.below hb5 zB.lt).farCells (by omega) _ _⟩, (zX.below hb5 zX.lt).farCells (by omega) _ _, zQ5.setCells _ rfl, below_setCells (by omega) _ _ _ (below_via hw hb5 hw.size)⟩
        have hall : ∃ (zk zn : Int) (zs : ByteArray) (zi : List Int) (zl : List ValueD) (Z1 : Option Addr) (y1 : Nat) (Z2 : Option Addr) (y2 : Nat), Hid (ValueD.mk zk zn zs zi zl = if fkind = 5 then projV b d (typeOf b ftype) (.mk xk xn xs xi xl) else .mk xk xn xs xi xl) ∧ RVal (fun y => Apart (fun y => w1.heap.size + 1 + 1 ≤ y ∨ (S' y ∧ y < w.heap.size)) (w1.heap.size + 1) vi vl y ∧ y < (setCells w5 Q 0 [.int .i64 pk, .int .i64 pn, .string ps, .slice E1 pi.length f1, .slice E2 pl.length f2]).heap.size) (setCells w5 Q 0 [.int .i64 pk, .int .i64 pn, .string ps, .slice E1 pi.length f1, .slice E2 pl.length f2]) [.int .i64 zk, .int .i64 zn, .string zs, .slice Z1 zi.length y1, .slice Z2 zl.length y2] (.mk zk zn zs zi zl) ∧ Rows2 (fun y => w1.heap.size + 1 + 1 ≤ y ∨ (S' y ∧ y < w.heap.size)) (w1.heap.size + 1 + 1) (setCells w5 Q 0 [.int .i64 pk, .int .i64 pn, .string ps, .slice E1 pi.length f1, .slice E2 pl.length f2]) (w1.heap.size + 1) vi vl ((P0 ++ Sj).map (·.1)) ((P0 ++ Sj).map (·.2)) ∧ Box (setCells w5 Q 0 [.int .i64 pk, .int .i64 pn, .string ps, .slice E1 pi.length f1, .slice E2 pl.length f2]) (w1.heap.size + 1) 37 [.int .i64 2, .int .i64 0, .string ⟨#[]⟩, vi, vl] ∧ (Box (setCells w5 Q 0 [.int .i64 pk, .int .i64 pn, .string ps, .slice E1 pi.length f1, .slice E2 pl.length f2]) (w.heap.size + 1 + 1) 37 [.int .i64 0, .int .i64 0, .string ⟨#[]⟩, .slice none 0 0, .slice none 0 0] ∧ Box (setCells w5 Q 0 [.int .i64 pk, .int .i64 pn, .string ps, .slice E1 pi.length f1, .slice E2 pl.length f2]) (w.heap.size + 1) 37 [.int .i64 kind, .int .i64 nn, .string s, .slice (some ⟨ig, io, none⟩) ids.length d1, .slice (some ⟨lg, lo, none⟩) l.length d2] ∧ Box (setCells w5 Q 0 [.int .i64 pk, .int .i64 pn, .string ps, .slice E1 pi.length f1, .slice E2 pl.length f2]) w.heap.size 24 [.slice A b.length cap]) ∧ Box (setCells w5 Q 0 [.int .i64 pk, .int .i64 pn, .string ps, .slice E1 pi.length f1, .slice E2 pl.length f2]) X 55 [.int .i64 idj, .string fname, .string ftype, .int .i64 fkind, .int .i64 frule] ∧ Box (setCells w5 Q 0 [.int .i64 pk, .int .i64 pn, .string ps, .slice E1 pi.length f1, .slice E2 pl.length f2]) Q 37 [.int .i64 zk, .int .i64 zn, .string zs, .slice Z1 zi.length y1, .slice Z2 zl.length y2] ∧ Below w.heap.size w (setCells w5 Q 0 [.int .i64 pk, .int .i64 pn, .string ps, .slice E1 pi.length f1, .slice E2 pl.length f2]) := ⟨pk, pn, ps, pi, pl, E1, f1, E2, f2, (by show _ = _; rw [if_pos Hk5.out, Hpe.out]), hrel.out, hrow.out, hbx.out.1, hbx.out.2.1, hbx.out.2.2.1, hbx.out.2.2.2.1, hbx.out.2.2.2.2⟩
        have Hall := Lib.hid hall
        obtain ⟨r0, r1, r2, r3, r4⟩ := zQ5.five
        have g0 := zQ5.frozen 0
        have g1 := zQ5.frozen 1
        have g2 := zQ5.frozen 2
        have g3 := zQ5.frozen 3
        have g4 := zQ5.frozen 4
        have hlr := zQ5.lt
        clear s0 sl0 s2 slX u0 u1 u2 u3 u4 hr5 hb5 Hcall hnU zG zR zV zB zX zQ zQ5 hR hRL hw hall hrel hrow hbx
        go_wp2_with fail
        change Met _ _ (setCells w5 Q 0 [.int .i64 pk, .int .i64 pn, .string ps, .slice E1 pi.length f1, .slice E2 pl.length f2])
        generalize setCells w5 Q 0 _ = W6 at Hall ⊢
        go_meet
        case rel =>
         exact Hall.out
       ·have hkb : (fkind == 5) = false := by simpa using hk5
        have Hk5 := Lib.hid hk5
        clear hk5
        go_wp2_with fail
        go_meet
        case rel => exact ⟨xk, xn, xs, xi, xl, D1, e1, D2, e2, (by show _ = _; rw [if_neg Hk5.out]), Hapx.out, hR, zG, ⟨zR, zV, zB⟩, zX, zQ, hw⟩
      case rest =>
       clear hR zG zR zV zB zX zQ hw hRL Hapx
       obtain ⟨pk, pn, ps, pi, pl, E1, f1, E2, f2, Hpe, hrx, hR, zG, ⟨zR, zV, zB⟩, zX, zQ, hw⟩ := hcut
       have Hsel2 : Hid (projSel b d idj fkind ftype ((ids.zip l).take (j + 1)) = Sj ++ [(idj, ValueD.mk pk pn ps pi pl)]) := by show _ = _; rw [Hsel.out, Hpe.out]
       have Hln : Hid ((projSel b d idj fkind ftype ((ids.zip l).take (j + 1))).length = Sj.length + 1) := by show _ = _; rw [Hsel2.out]; simp
       have HXr := Lib.hid hrx
       have hn1 : ∀ k, vi.ownBlock = some k → ¬ (fun y => Apart (fun y => w1.heap.size + 1 + 1 ≤ y ∨ (S' y ∧ y < w.heap.size)) (w1.heap.size + 1) vi vl y ∧ y < wc.heap.size) k := fun k hk h => h.1.2.1 hk
       have hnQ := hnv
       have hdr : wc.drew.heap.size = wc.heap.size := rfl
       clear hrx Hsel Hpe
       go_wp2_with fail
       have hS := trivial
       have HSK : Hid (∀ W', Box W' (w1.heap.size + 1) 37 [.int .i64 2, .int .i64 0, .string ⟨#[]⟩, vi, vl] → Box W' X 55 [.int .i64 idj, .string fname, .string ftype, .int .i64 fkind, .int .i64 frule] → Box W' Q 37 [.int .i64 pk, .int .i64 pn, .string ps, .slice E1 pi.length f1, .slice E2 pl.length f2] → (fun W' => (W'.cell? ⟨(w1.heap.size + 1), 3, none⟩ = some vi ∧ W'.cell? ⟨(w1.heap.size + 1), 4, none⟩ = some vl) ∧ W'.cell? ⟨X, 0, none⟩ = some (.int .i64 idj) ∧ (W'.cell? ⟨Q, 0, none⟩ = some (.int .i64 pk) ∧ W'.cell? ⟨Q, 1, none⟩ = some (.int .i64 pn) ∧ W'.cell? ⟨Q, 2, none⟩ = some (.string ps) ∧ W'.cell? ⟨Q, 3, none⟩ = some (.slice E1 pi.length f1) ∧ W'.cell? ⟨Q, 4, none⟩ = some (.slice E2 pl.length f2))) W') := fun W' h1 h2 h3 => ⟨⟨h1.cell 3, h1.cell 4⟩, h2.cell 0, h3.five⟩
       replace hR := hR.drew
       replace zG := zG.drew
       replace zR := zR.drew
       replace zV := zV.drew
       replace zB := zB.drew
       replace zX := zX.drew
       (first | (replace zQ := zQ.drew) | (replace zQ := zQ.grown hg5 hnQ))
       replace hw := below_drew hw
       replace hS := HSK.out _ zG zX zQ
       refine late_start (fun W' => (W'.cell? ⟨(w1.heap.size + 1), 3, none⟩ = some vi ∧ W'.cell? ⟨(w1.heap.size + 1), 4, none⟩ = some vl) ∧ W'.cell? ⟨X, 0, none⟩ = some (.int .i64 idj) ∧ (W'.cell? ⟨Q, 0, none⟩ = some (.int .i64 pk) ∧ W'.cell? ⟨Q, 1, none⟩ = some (.int .i64 pn) ∧ W'.cell? ⟨Q, 2, none⟩ = some (.string ps) ∧ W'.cell? ⟨Q, 3, none⟩ = some (.slice E1 pi.length f1) ∧ W'.cell? ⟨Q, 4, none⟩ = some (.slice E2 pl.length f2))) 11 (by kernel_rfl) ?_
       refine tkL 0 hS ?_
       try simp only [pu]
       refine tkL 1 hS ?_
       try simp only [pu]
       refine tkL 2 hS ?_
       try simp only [pu]
       refine tkL 5 hS ?_
       try simp only [pu]
       refine tkL 6 hS ?_
       try simp only [pu]
       refine tkL 7 hS ?_
       try simp only [pu]
       refine late_two (i := 3) (j := 8) rfl rfl (by kernel_rfl) (fun K hK => ?_) (fun K hK => ?_)
       ·go_simp
        have hZ1 := Box.newB hw 3 [.int .i64 idj]
        try simp only [World.size_alloc] at hZ1
        replace hR := hR.alloc (.cells #[.int .i64 idj] 3)
        replace zG := zG.alloc (.cells #[.int .i64 idj] 3)
        replace zR := zR.alloc (.cells #[.int .i64 idj] 3)
        replace zV := zV.alloc (.cells #[.int .i64 idj] 3)
        replace zB := zB.alloc (.cells #[.int .i64 idj] 3)
        replace zX := zX.alloc (.cells #[.int .i64 idj] 3)
        (first | (replace zQ := zQ.alloc (.cells #[.int .i64 idj] 3)) | (replace zQ := zQ.grown hg5 hnQ))
        (first | (replace hZ2 := hZ2.alloc (.cells #[.int .i64 idj] 3)) | skip)
        replace hw := hw.alloc hw.size (.cells #[.int .i64 idj] 3)
        replace hS := HSK.out _ zG zX zQ
        refine hK.out _ _ (fun _ => hS) ?_
        clear hK K
        try simp only [pu]
        refine late_two (i := 4) (j := 8) rfl rfl (by kernel_rfl) (fun K hK => ?_) (fun K hK => ?_)
        ·refine step_append _ rfl (.tmp 58) (.tmp 60) rfl sl_ints RInt.fair rfl rfl hR.ids (Src.one (es := [.int .i64 idj]) (y := idj) rfl (Ones.of_all rfl) rfl hZ1.lies) (NoT.lt _) (by go_light; simp; omega) hR.hb ?_
         intro v1 wk1 ho1 hg1 hv1
         have hR' := hR.push_id ho1 hg1 hv1
         replace zG := zG.grownR hR.ids (by first | exact .inl (by go_light; omega) | exact .inr (by decide)) hg1
         replace zR := zR.grownR hR.ids (by first | exact .inl (by go_light; omega) | exact .inr (by decide)) hg1
         replace zV := zV.grownR hR.ids (by first | exact .inl (by go_light; omega) | exact .inr (by decide)) hg1
         replace zB := zB.grownR hR.ids (by first | exact .inl (by go_light; omega) | exact .inr (by decide)) hg1
         replace zX := zX.grownR hR.ids (by first | exact .inl (by go_light; omega) | exact .inr (by decide)) hg1
         (first | (replace zQ := zQ.grownR hR.ids (by first | exact .inl (by go_light; omega) | exact .inr (by decide)) hg1) | (replace zQ := zQ.grown hg5 hnQ))
         (first | (replace hZ2 := hZ2.grownR hR.ids (.inr (by decide)) hg1) | skip)
         replace hw := below_grown hw hg1 hw.size (fun g' h => by go_light; have := (hR.ilt h).1; omega)
         replace hR := hR'
         clear hR'
         replace hS := HSK.out _ zG zX zQ
         refine hK.out _ _ (fun _ => hS) ?_
         clear hK K
         try simp only [pu]
         refine tkL 10 hS ?_
         try simp only [pu]
         refine late_one (i := 8) rfl (by kernel_rfl) (fun K hK => ?_)
         go_simp
         have hZ2 := Box.newB hw 37 [.int .i64 pk, .int .i64 pn, .string ps, .slice E1 pi.length f1, .slice E2 pl.length f2]
         try simp only [World.size_alloc] at hZ2
         replace hR := hR.alloc (.cells [.int .i64 pk, .int .i64 pn, .string ps, .slice E1 pi.length f1, .slice E2 pl.length f2].toArray 37)
         replace zG := zG.alloc (.cells [.int .i64 pk, .int .i64 pn, .string ps, .slice E1 pi.length f1, .slice E2 pl.length f2].toArray 37)
         replace zR := zR.alloc (.cells [.int .i64 pk, .int .i64 pn, .string ps, .slice E1 pi.length f1, .slice E2 pl.length f2].toArray 37)
         replace zV := zV.alloc (.cells [.int .i64 pk, .int .i64 pn, .string ps, .slice E1 pi.length f1, .slice E2 pl.length f2].toArray 37)
         replace zB := zB.alloc (.cells [.int .i64 pk, .int .i64 pn, .string ps, .slice E1 pi.length f1, .slice E2 pl.length f2].toArray 37)
         replace zX := zX.alloc (.cells [.int .i64 pk, .int .i64 pn, .string ps, .slice E1 pi.length f1, .slice E2 pl.length f2].toArray 37)
         (first | (replace zQ := zQ.alloc (.cells [.int .i64 pk, .int .i64 pn, .string ps, .slice E1 pi.length f1, .slice E2 pl.length f2].toArray 37)) | (replace zQ := zQ.grown hg5 hnQ))
         (first | (replace hZ1 := hZ1.alloc (.cells [.int .i64 pk, .int .i64 pn, .string ps, .slice E1 pi.length f1, .slice E2 pl.length f2].toArray 37)) | skip)
         replace hw := hw.alloc hw.size (.cells [.int .i64 pk, .int .i64 pn, .string ps, .slice E1 pi.length f1, .slice E2 pl.length f2].toArray 37)
         replace hS := HSK.out _ zG zX zQ
         refine hK.out _ _ (fun _ => hS) ?_
         clear hK K
         try simp only [pu]
         refine late_one (i := 9) rfl (by kernel_rfl) (fun K hK => ?_)
         refine step_append _ rfl (.tmp 63) (.tmp 65) rfl sl_vals RVal.fair rfl rfl hR.lrow (Src.one (es := [.int .i64 pk, .int .i64 pn, .string ps, .slice E1 pi.length f1, .slice E2 pl.length f2]) (y := ValueD.mk pk pn ps pi pl) rfl (Ones.of_all rfl) (hR.apart2 (RVal.fair.keep HXr.out (by first | exact (((Keep.drew _ _).trans (Keep.alloc _ _ _)).trans (Keep.of_grown hg1 hn1)).trans (Keep.alloc _ _ _) | exact (((Keep.drew _ _).trans (Keep.alloc _ _ _)).trans (Keep.alloc _ _ _)).trans (Keep.of_grown hg1 hn1))) ?ap) hZ2.lies) (fun _ h => h.2) (by go_light; simp; omega) hR.hb ?_
         case ap =>
          rintro y ⟨hy1, hy2⟩
          refine ⟨hy1.1, fun e => ?_, hy1.2.2.1, hy1.2.2.2⟩
          rcases hv1 with h | h
          ·exact hy1.2.1 (h ▸ e)
          ·rw [h] at e
           have e' := Option.some.inj e
           simp at e'
           go_light
           omega
         intro v5 w5 ho5 hg5 hv5
         have hR' := hR.push_l ho5 hg5 hv5
         replace zG := zG.grownR hR.l (by first | exact .inl (by go_light; omega) | exact .inr (by decide)) hg5
         replace zR := zR.grownR hR.l (by first | exact .inl (by go_light; omega) | exact .inr (by decide)) hg5
         replace zV := zV.grownR hR.l (by first | exact .inl (by go_light; omega) | exact .inr (by decide)) hg5
         replace zB := zB.grownR hR.l (by first | exact .inl (by go_light; omega) | exact .inr (by decide)) hg5
         replace zX := zX.grownR hR.l (by first | exact .inl (by go_light; omega) | exact .inr (by decide)) hg5
         (first | (replace zQ := zQ.grownR hR.l (by first | exact .inl (by go_light; omega) | exact .inr (by decide)) hg5) | (replace zQ := zQ.grown hg5 hnQ))
         replace hw := below_grown hw hg5 hw.size (fun g' h => by go_light; have := (hR.llt h).1; omega)
         replace hR := hR'
         clear hR'
         replace hS := HSK.out _ zG zX zQ
         have fz3 := zG.frozen 3
         have cz3 := zG.cell 3
         have fz4 := zG.frozen 4
         have cz4 := zG.cell 4
         have lz := zG.lt
         simp only [List.getElem?_cons_zero, List.getElem?_cons_succ] at cz3 cz4
         obtain ⟨R1, p1, rfl, _⟩ := hR.ids.form
         obtain ⟨R2, p2, rfl, _⟩ := hR.l.form
         refine hK.out _ _ (fun _ => hS) ?_
         clear hK K
         try simp only [pu]
         refine late_one (i := 11) rfl (by kernel_rfl) (fun K hK => ?_)
         go_simp
         refine hK.out _ _ (fun h => absurd h (by decide)) ?_
         clear hK K
         try simp only [pu]
         refine late_one (i := 12) rfl (by kernel_rfl) (fun K hK => ?_)
         go_simp
         refine hK.out _ _ (fun h => absurd h (by decide)) ?_
         clear hK K
         try simp only [pu]
         refine late_one (i := 13) rfl (by kernel_rfl) (fun K hK => ?_)
         go_simp
         refine hK.out _ _ (fun h => absurd h (by decide)) ?_
         clear hK K
         try simp only [pu]
         refine late_done (by kernel_rfl) ?_ _
         simp only [List.length_append, List.length_map, List.length_cons, List.length_nil, Nat.zero_add] at hR
         replace hR := (hR.setCell 3 (.slice R1 (P0.length + Sj.length + 1) p1)).setCell 4 (.slice R2 (P0.length + Sj.length + 1) p2)
         replace zG := (zG.set_ 3 (.slice R1 (P0.length + Sj.length + 1) p1)).set_ 4 (.slice R2 (P0.length + Sj.length + 1) p2)
         simp only [List.set_cons_zero, List.set_cons_succ, List.length_append, List.length_map, List.length_cons, List.length_nil, Nat.zero_add] at zG
         replace zR := zR.far (p := ⟨(w1.heap.size + 1), 3, none⟩) (by first | (simp; done) | (simp; omega)) (.slice R1 (P0.length + Sj.length + 1) p1)
         replace zV := zV.far (p := ⟨(w1.heap.size + 1), 3, none⟩) (by first | (simp; done) | (simp; omega)) (.slice R1 (P0.length + Sj.length + 1) p1)
         replace zB := zB.far (p := ⟨(w1.heap.size + 1), 3, none⟩) (by first | (simp; done) | (simp; omega)) (.slice R1 (P0.length + Sj.length + 1) p1)
         replace zX := zX.far (p := ⟨(w1.heap.size + 1), 3, none⟩) (by first | (simp; done) | (simp; omega)) (.slice R1 (P0.length + Sj.length + 1) p1)
         replace zR := zR.far (p := ⟨(w1.heap.size + 1), 4, none⟩) (by first | (simp; done) | (simp; omega)) (.slice R2 (P0.length + Sj.length + 1) p2)
         replace zV := zV.far (p := ⟨(w1.heap.size + 1), 4, none⟩) (by first | (simp; done) | (simp; omega)) (.slice R2 (P0.length + Sj.length + 1) p2)
         replace zB := zB.far (p := ⟨(w1.heap.size + 1), 4, none⟩) (by first | (simp; done) | (simp; omega)) (.slice R2 (P0.length + Sj.length + 1) p2)
         replace zX := zX.far (p := ⟨(w1.heap.size + 1), 4, none⟩) (by first | (simp; done) | (simp; omega)) (.slice R2 (P0.length + Sj.length + 1) p2)
         replace hw := (hw.setCell (p := ⟨(w1.heap.size + 1), 3, none⟩) (by first | (simp; done) | (simp; omega)) (.slice R1 (P0.length + Sj.length + 1) p1)).setCell (p := ⟨(w1.heap.size + 1), 4, none⟩) (by first | (simp; done) | (simp; omega)) (.slice R2 (P0.length + Sj.length + 1) p2)
         clear hS fz3 cz3 fz4 cz4 lz hg5 hv5 ho5 hg1 hv1 ho1
         go_wp2_with fail
         go_roundw
         case rel => exact ⟨j + 1, _, _, by rw [Hln.out]; go_num, by go_num, by go_light; omega, by rw [Hsel2.out]; simpa [Nat.add_assoc] using hR, zG, ⟨zR, zV, zB⟩, zX, hw⟩
         case measure => go_light; simp [intOf]; omega
        ·go_simp
         have hZ2 := Box.newB hw 37 [.int .i64 pk, .int .i64 pn, .string ps, .slice E1 pi.length f1, .slice E2 pl.length f2]
         try simp only [World.size_alloc] at hZ2
         replace hR := hR.alloc (.cells [.int .i64 pk, .int .i64 pn, .string ps, .slice E1 pi.length f1, .slice E2 pl.length f2].toArray 37)
         replace zG := zG.alloc (.cells [.int .i64 pk, .int .i64 pn, .string ps, .slice E1 pi.length f1, .slice E2 pl.length f2].toArray 37)
         replace zR := zR.alloc (.cells [.int .i64 pk, .int .i64 pn, .string ps, .slice E1 pi.length f1, .slice E2 pl.length f2].toArray 37)
         replace zV := zV.alloc (.cells [.int .i64 pk, .int .i64 pn, .string ps, .slice E1 pi.length f1, .slice E2 pl.length f2].toArray 37)
         replace zB := zB.alloc (.cells [.int .i64 pk, .int .i64 pn, .string ps, .slice E1 pi.length f1, .slice E2 pl.length f2].toArray 37)
         replace zX := zX.alloc (.cells [.int .i64 pk, .int .i64 pn, .string ps, .slice E1 pi.length f1, .slice E2 pl.length f2].toArray 37)
         (first | (replace zQ := zQ.alloc (.cells [.int .i64 pk, .int .i64 pn, .string ps, .slice E1 pi.length f1, .slice E2 pl.length f2].toArray 37)) | (replace zQ := zQ.grown hg5 hnQ))
         (first | (replace hZ1 := hZ1.alloc (.cells [.int .i64 pk, .int .i64 pn, .string ps, .slice E1 pi.length f1, .slice E2 pl.length f2].toArray 37)) | skip)
         replace hw := hw.alloc hw.size (.cells [.int .i64 pk, .int .i64 pn, .string ps, .slice E1 pi.length f1, .slice E2 pl.length f2].toArray 37)
         replace hS := HSK.out _ zG zX zQ
         refine hK.out _ _ (fun _ => hS) ?_
         clear hK K
         try simp only [pu]
         refine late_one (i := 4) rfl (by kernel_rfl) (fun K hK => ?_)
         refine step_append _ rfl (.tmp 58) (.tmp 60) rfl sl_ints RInt.fair rfl rfl hR.ids (Src.one (es := [.int .i64 idj]) (y := idj) rfl (Ones.of_all rfl) rfl hZ1.lies) (NoT.lt _) (by go_light; simp; omega) hR.hb ?_
         intro v1 wk1 ho1 hg1 hv1
         have hR' := hR.push_id ho1 hg1 hv1
         replace zG := zG.grownR hR.ids (by first | exact .inl (by go_light; omega) | exact .inr (by decide)) hg1
         replace zR := zR.grownR hR.ids (by first | exact .inl (by go_light; omega) | exact .inr (by decide)) hg1
         replace zV := zV.grownR hR.ids (by first | exact .inl (by go_light; omega) | exact .inr (by decide)) hg1
         replace zB := zB.grownR hR.ids (by first | exact .inl (by go_light; omega) | exact .inr (by decide)) hg1
         replace zX := zX.grownR hR.ids (by first | exact .inl (by go_light; omega) | exact .inr (by decide)) hg1
         (first | (replace zQ := zQ.grownR hR.ids (by first | exact .inl (by go_light; omega) | exact .inr (by decide)) hg1) | (replace zQ := zQ.grown hg5 hnQ))
         (first | (replace hZ2 := hZ2.grownR hR.ids (.inr (by decide)) hg1) | skip)
         replace hw := below_grown hw hg1 hw.size (fun g' h => by go_light; have := (hR.ilt h).1; omega)
         replace hR := hR'
         clear hR'
         replace hS := HSK.out _ zG zX zQ
         refine hK.out _ _ (fun _ => hS) ?_
         clear hK K
         try simp only [pu]
         refine tkL 10 hS ?_
         try simp only [pu]
         refine late_one (i := 9) rfl (by kernel_rfl) (fun K hK => ?_)
         refine step_append _ rfl (.tmp 63) (.tmp 65) rfl sl_vals RVal.fair rfl rfl hR.lrow (Src.one (es := [.int .i64 pk, .int .i64 pn, .string ps, .slice E1 pi.length f1, .slice E2 pl.length f2]) (y := ValueD.mk pk pn ps pi pl) rfl (Ones.of_all rfl) (hR.apart2 (RVal.fair.keep HXr.out (by first | exact (((Keep.drew _ _).trans (Keep.alloc _ _ _)).trans (Keep.of_grown hg1 hn1)).trans (Keep.alloc _ _ _) | exact (((Keep.drew _ _).trans (Keep.alloc _ _ _)).trans (Keep.alloc _ _ _)).trans (Keep.of_grown hg1 hn1))) ?ap) hZ2.lies) (fun _ h => h.2) (by go_light; simp; omega) hR.hb ?_
         case ap =>
          rintro y ⟨hy1, hy2⟩
          refine ⟨hy1.1, fun e => ?_, hy1.2.2.1, hy1.2.2.2⟩
          rcases hv1 with h | h
          ·exact hy1.2.1 (h ▸ e)
          ·rw [h] at e
           have e' := Option.some.inj e
           simp at e'
           go_light
           omega
         intro v5 w5 ho5 hg5 hv5
         have hR' := hR.push_l ho5 hg5 hv5
         replace zG := zG.grownR hR.l (by first | exact .inl (by go_light; omega) | exact .inr (by decide)) hg5
         replace zR := zR.grownR hR.l (by first | exact .inl (by go_light; omega) | exact .inr (by decide)) hg5
         replace zV := zV.grownR hR.l (by first | exact .inl (by go_light; omega) | exact .inr (by decide)) hg5
         replace zB := zB.grownR hR.l (by first | exact .inl (by go_light; omega) | exact .inr (by decide)) hg5
         replace zX := zX.grownR hR.l (by first | exact .inl (by go_light; omega) | exact .inr (by decide)) hg5
         (first | (replace zQ := zQ.grownR hR.l (by first | exact .inl (by go_light; omega) | exact .inr (by decide)) hg5) | (replace zQ := zQ.grown hg5 hnQ))
         replace hw := below_grown hw hg5 hw.size (fun g' h => by go_light; have := (hR.llt h).1; omega)
         replace hR := hR'
         clear hR'
         replace hS := HSK.out _ zG zX zQ
         have fz3 := zG.frozen 3
         have cz3 := zG.cell 3
         have fz4 := zG.frozen 4
         have cz4 := zG.cell 4
         have lz := zG.lt
         simp only [List.getElem?_cons_zero, List.getElem?_cons_succ] at cz3 cz4
         obtain ⟨R1, p1, rfl, _⟩ := hR.ids.form
         obtain ⟨R2, p2, rfl, _⟩ := hR.l.form
         refine hK.out _ _ (fun _ => hS) ?_
         clear hK K
         try simp only [pu]
         refine late_one (i := 11) rfl (by kernel_rfl) (fun K hK => ?_)
         go_simp
         refine hK.out _ _ (fun h => absurd h (by decide)) ?_
         clear hK K
         try simp only [pu]
         refine late_one (i := 12) rfl (by kernel_rfl) (fun K hK => ?_)
         go_simp
         refine hK.out _ _ (fun h => absurd h (by decide)) ?_
         clear hK K
         try simp only [pu]
         refine late_one (i := 13) rfl (by kernel_rfl) (fun K hK => ?_)
         go_simp
         refine hK.out _ _ (fun h => absurd h (by decide)) ?_
         clear hK K
         try simp only [pu]
         refine late_done (by kernel_rfl) ?_ _
         simp only [List.length_append, List.length_map, List.length_cons, List.length_nil, Nat.zero_add] at hR
         replace hR := (hR.setCell 3 (.slice R1 (P0.length + Sj.length + 1) p1)).setCell 4 (.slice R2 (P0.length + Sj.length + 1) p2)
         replace zG := (zG.set_ 3 (.slice R1 (P0.length + Sj.length + 1) p1)).set_ 4 (.slice R2 (P0.length + Sj.length + 1) p2)
         simp only [List.set_cons_zero, List.set_cons_succ, List.length_append, List.length_map, List.length_cons, List.length_nil, Nat.zero_add] at zG
         replace zR := zR.far (p := ⟨(w1.heap.size + 1), 3, none⟩) (by first | (simp; done) | (simp; omega)) (.slice R1 (P0.length + Sj.length + 1) p1)
         replace zV := zV.far (p := ⟨(w1.heap.size + 1), 3, none⟩) (by first | (simp; done) | (simp; omega)) (.slice R1 (P0.length + Sj.length + 1) p1)
         replace zB := zB.far (p := ⟨(w1.heap.size + 1), 3, none⟩) (by first | (simp; done) | (simp; omega)) (.slice R1 (P0.length + Sj.length + 1) p1)
         replace zX := zX.far (p := ⟨(w1.heap.size + 1), 3, none⟩) (by first | (simp; done) | (simp; omega)) (.slice R1 (P0.length + Sj.length + 1) p1)
         replace zR := zR.far (p := ⟨(w1.heap.size + 1), 4, none⟩) (by first | (simp; done) | (simp; omega)) (.slice R2 (P0.length + Sj.length + 1) p2)
         replace zV := zV.far (p := ⟨(w1.heap.size + 1), 4, none⟩) (by first | (simp; done) | (simp; omega)) (.slice R2 (P0.length + Sj.length + 1) p2)
         replace zB := zB.far (p := ⟨(w1.heap.size + 1), 4, none⟩) (by first | (simp; done) | (simp; omega)) (.slice R2 (P0.length + Sj.length + 1) p2)
         replace zX := zX.far (p := ⟨(w1.heap.size + 1), 4, none⟩) (by first | (simp; done) | (simp; omega)) (.slice R2 (P0.length + Sj.length + 1) p2)
         replace hw := (hw.setCell (p := ⟨(w1.heap.size + 1), 3, none⟩) (by first | (simp; done) | (simp; omega)) (.slice R1 (P0.length + Sj.length + 1) p1)).setCell (p := ⟨(w1.heap.size + 1), 4, none⟩) (by first | (simp; done) | (simp; omega)) (.slice R2 (P0.length + Sj.length + 1) p2)
         clear hS fz3 cz3 fz4 cz4 lz hg5 hv5 ho5 hg1 hv1 ho1
         go_wp2_with fail
         go_roundw
         case rel => exact ⟨j + 1, _, _, by rw [Hln.out]; go_num, by go_num, by go_light; omega, by rw [Hsel2.out]; simpa [Nat.add_assoc] using hR, zG, ⟨zR, zV, zB⟩, zX, hw⟩
         case measure => go_light; simp [intOf]; omega
       ·go_simp
        have hZ2 := Box.newB hw 37 [.int .i64 pk, .int .i64 pn, .string ps, .slice E1 pi.length f1, .slice E2 pl.length f2]
        try simp only [World.size_alloc] at hZ2
        replace hR := hR.alloc (.cells [.int .i64 pk, .int .i64 pn, .string ps, .slice E1 pi.length f1, .slice E2 pl.length f2].toArray 37)
        replace zG := zG.alloc (.cells [.int .i64 pk, .int .i64 pn, .string ps, .slice E1 pi.length f1, .slice E2 pl.length f2].toArray 37)
        replace zR := zR.alloc (.cells [.int .i64 pk, .int .i64 pn, .string ps, .slice E1 pi.length f1, .slice E2 pl.length f2].toArray 37)
        replace zV := zV.alloc (.cells [.int .i64 pk, .int .i64 pn, .string ps, .slice E1 pi.length f1, .slice E2 pl.length f2].toArray 37)
        replace zB := zB.alloc (.cells [.int .i64 pk, .int .i64 pn, .string ps, .slice E1 pi.length f1, .slice E2 pl.length f2].toArray 37)
        replace zX := zX.alloc (.cells [.int .i64 pk, .int .i64 pn, .string ps, .slice E1 pi.length f1, .slice E2 pl.length f2].toArray 37)
        (first | (replace zQ := zQ.alloc (.cells [.int .i64 pk, .int .i64 pn, .string ps, .slice E1 pi.length f1, .slice E2 pl.length f2].toArray 37)) | (replace zQ := zQ.grown hg5 hnQ))
        (first | (replace hZ1 := hZ1.alloc (.cells [.int .i64 pk, .int .i64 pn, .string ps, .slice E1 pi.length f1, .slice E2 pl.length f2].toArray 37)) | skip)
        replace hw := hw.alloc hw.size (.cells [.int .i64 pk, .int .i64 pn, .string ps, .slice E1 pi.length f1, .slice E2 pl.length f2].toArray 37)
        replace hS := HSK.out _ zG zX zQ
        refine hK.out _ _ (fun _ => hS) ?_
        clear hK K
        try simp only [pu]
        refine late_one (i := 3) rfl (by kernel_rfl) (fun K hK => ?_)
        go_simp
        have hZ1 := Box.newB hw 3 [.int .i64 idj]
        try simp only [World.size_alloc] at hZ1
        replace hR := hR.alloc (.cells #[.int .i64 idj] 3)
        replace zG := zG.alloc (.cells #[.int .i64 idj] 3)
        replace zR := zR.alloc (.cells #[.int .i64 idj] 3)
        replace zV := zV.alloc (.cells #[.int .i64 idj] 3)
        replace zB := zB.alloc (.cells #[.int .i64 idj] 3)
        replace zX := zX.alloc (.cells #[.int .i64 idj] 3)
        (first | (replace zQ := zQ.alloc (.cells #[.int .i64 idj] 3)) | (replace zQ := zQ.grown hg5 hnQ))
        (first | (replace hZ2 := hZ2.alloc (.cells #[.int .i64 idj] 3)) | skip)
        replace hw := hw.alloc hw.size (.cells #[.int .i64 idj] 3)
        replace hS := HSK.out _ zG zX zQ
        refine hK.out _ _ (fun _ => hS) ?_
        clear hK K
        try simp only [pu]
        refine late_one (i := 4) rfl (by kernel_rfl) (fun K hK => ?_)
        refine step_append _ rfl (.tmp 58) (.tmp 60) rfl sl_ints RInt.fair rfl rfl hR.ids (Src.one (es := [.int .i64 idj]) (y := idj) rfl (Ones.of_all rfl) rfl hZ1.lies) (NoT.lt _) (by go_light; simp; omega) hR.hb ?_
        intro v1 wk1 ho1 hg1 hv1
        have hR' := hR.push_id ho1 hg1 hv1
        replace zG := zG.grownR hR.ids (by first | exact .inl (by go_light; omega) | exact .inr (by decide)) hg1
        replace zR := zR.grownR hR.ids (by first | exact .inl (by go_light; omega) | exact .inr (by decide)) hg1
        replace zV := zV.grownR hR.ids (by first | exact .inl (by go_light; omega) | exact .inr (by decide)) hg1
        replace zB := zB.grownR hR.ids (by first | exact .inl (by go_light; omega) | exact .inr (by decide)) hg1
        replace zX := zX.grownR hR.ids (by first | exact .inl (by go_light; omega) | exact .inr (by decide)) hg1
        (first | (replace zQ := zQ.grownR hR.ids (by first | exact .inl (by go_light; omega) | exact .inr (by decide)) hg1) | (replace zQ := zQ.grown hg5 hnQ))
        (first | (replace hZ2 := hZ2.grownR hR.ids (.inr (by decide)) hg1) | skip)
        replace hw := below_grown hw hg1 hw.size (fun g' h => by go_light; have := (hR.ilt h).1; omega)
        replace hR := hR'
        clear hR'
        replace hS := HSK.out _ zG zX zQ
        refine hK.out _ _ (fun _ => hS) ?_
        clear hK K
        try simp only [pu]
        refine tkL 10 hS ?_
        try simp only [pu]
        refine late_one (i := 9) rfl (by kernel_rfl) (fun K hK => ?_)
        refine step_append _ rfl (.tmp 63) (.tmp 65) rfl sl_vals RVal.fair rfl rfl hR.lrow (Src.one (es := [.int .i64 pk, .int .i64 pn, .string ps, .slice E1 pi.length f1, .slice E2 pl.length f2]) (y := ValueD.mk pk pn ps pi pl) rfl (Ones.of_all rfl) (hR.apart2 (RVal.fair.keep HXr.out (by first | exact (((Keep.drew _ _).trans (Keep.alloc _ _ _)).trans (Keep.of_grown hg1 hn1)).trans (Keep.alloc _ _ _) | exact (((Keep.drew _ _).trans (Keep.alloc _ _ _)).trans (Keep.alloc _ _ _)).trans (Keep.of_grown hg1 hn1))) ?ap) hZ2.lies) (fun _ h => h.2) (by go_light; simp; omega) hR.hb ?_
        case ap =>
         rintro y ⟨hy1, hy2⟩
         refine ⟨hy1.1, fun e => ?_, hy1.2.2.1, hy1.2.2.2⟩
         rcases hv1 with h | h
         ·exact hy1.2.1 (h ▸ e)
         ·rw [h] at e
          have e' := Option.some.inj e
          simp at e'
          go_light
          omega
        intro v5 w5 ho5 hg5 hv5
        have hR' := hR.push_l ho5 hg5 hv5
        replace zG := zG.grownR hR.l (by first | exact .inl (by go_light; omega) | exact .inr (by decide)) hg5
        replace zR := zR.grownR hR.l (by first | exact .inl (by go_light; omega) | exact .inr (by decide)) hg5
        replace zV := zV.grownR hR.l (by first | exact .inl (by go_light; omega) | exact .inr (by decide)) hg5
        replace zB := zB.grownR hR.l (by first | exact .inl (by go_light; omega) | exact .inr (by decide)) hg5
        replace zX := zX.grownR hR.l (by first | exact .inl (by go_light; omega) | exact .inr (by decide)) hg5
        (first | (replace zQ := zQ.grownR hR.l (by first | exact .inl (by go_light; omega) | exact .inr (by decide)) hg5) | (replace zQ := zQ.grown hg5 hnQ))
        replace hw := below_grown hw hg5 hw.size (fun g' h => by go_light; have := (hR.llt h).1; omega)
        replace hR := hR'
        clear hR'
        replace hS := HSK.out _ zG zX zQ
        have fz3 := zG.frozen 3
        have cz3 := zG.cell 3
        have fz4 := zG.frozen 4
        have cz4 := zG.cell 4
        have lz := zG.lt
        simp only [List.getElem?_cons_zero, List.getElem?_cons_succ] at cz3 cz4
        obtain ⟨R1, p1, rfl, _⟩ := hR.ids.form
        obtain ⟨R2, p2, rfl, _⟩ := hR.l.form
        refine hK.out _ _ (fun _ => hS) ?_
        clear hK K
        try simp only [pu]
        refine late_one (i := 11) rfl (by kernel_rfl) (fun K hK => ?_)
        go_simp
        refine hK.out _ _ (fun h => absurd h (by decide)) ?_
        clear hK K
        try simp only [pu]
        refine late_one (i := 12) rfl (by kernel_rfl) (fun K hK => ?_)
        go_simp
        refine hK.out _ _ (fun h => absurd h (by decide)) ?_
        clear hK K
        try simp only [pu]
        refine late_one (i := 13) rfl (by kernel_rfl) (fun K hK => ?_)
        go_simp
        refine hK.out _ _ (fun h => absurd h (by decide)) ?_
        clear hK K
        try simp only [pu]
        refine late_done (by kernel_rfl) ?_ _
        simp only [List.length_append, List.length_map, List.length_cons, List.length_nil, Nat.zero_add] at hR
        replace hR := (hR.setCell 3 (.slice R1 (P0.length + Sj.length + 1) p1)).setCell 4 (.slice R2 (P0.length + Sj.length + 1) p2)
        replace zG := (zG.set_ 3 (.slice R1 (P0.length + Sj.length + 1) p1)).set_ 4 (.slice R2 (P0.length + Sj.length + 1) p2)
        simp only [List.set_cons_zero, List.set_cons_succ, List.length_append, List.length_map, List.length_cons, List.length_nil, Nat.zero_add] at zG
        replace zR := zR.far (p := ⟨(w1.heap.size + 1), 3, none⟩) (by first | (simp; done) | (simp; omega)) (.slice R1 (P0.length + Sj.length + 1) p1)
        replace zV := zV.far (p := ⟨(w1.heap.size + 1), 3, none⟩) (by first | (simp; done) | (simp; omega)) (.slice R1 (P0.length + Sj.length + 1) p1)
        replace zB := zB.far (p := ⟨(w1.heap.size + 1), 3, none⟩) (by first | (simp; done) | (simp; omega)) (.slice R1 (P0.length + Sj.length + 1) p1)
        replace zX := zX.far (p := ⟨(w1.heap.size + 1), 3, none⟩) (by first | (simp; done) | (simp; omega)) (.slice R1 (P0.length + Sj.length + 1) p1)
        replace zR := zR.far (p := ⟨(w1.heap.size + 1), 4, none⟩) (by first | (simp; done) | (simp; omega)) (.slice R2 (P0.length + Sj.length + 1) p2)
        replace zV := zV.far (p := ⟨(w1.heap.size + 1), 4, none⟩) (by first | (simp; done) | (simp; omega)) (.slice R2 (P0.length + Sj.length + 1) p2)
        replace zB := zB.far (p := ⟨(w1.heap.size + 1), 4, none⟩) (by first | (simp; done) | (simp; omega)) (.slice R2 (P0.length + Sj.length + 1) p2)
        replace zX := zX.far (p := ⟨(w1.heap.size + 1), 4, none⟩) (by first | (simp; done) | (simp; omega)) (.slice R2 (P0.length + Sj.length + 1) p2)
        replace hw := (hw.setCell (p := ⟨(w1.heap.size + 1), 3, none⟩) (by first | (simp; done) | (simp; omega)) (.slice R1 (P0.length + Sj.length + 1) p1)).setCell (p := ⟨(w1.heap.size + 1), 4, none⟩) (by first | (simp; done) | (simp; omega)) (.slice R2 (P0.length + Sj.length + 1) p2)
        clear hS fz3 cz3 fz4 cz4 lz hg5 hv5 ho5 hg1 hv1 ho1
        go_wp2_with fail
        go_roundw
        case rel => exact ⟨j + 1, _, _, by rw [Hln.out]; go_num, by go_num, by go_light; omega, by rw [Hsel2.out]; simpa [Nat.add_assoc] using hR, zG, ⟨zR, zV, zB⟩, zX, hw⟩
        case measure => go_light; simp [intOf]; omega
     ·--[NE
      rw [if_neg heq, List.append_nil] at hsel
      have Hsel := Lib.hid hsel
      have hne : (idj != fid) = true := by simpa using heq
      clear heq hsel hlk
      go_wp2_with fail
      go_roundw
      case rel => exact ⟨j + 1, vi, vl, by rw [Hsel.out], by go_num, by omega, by rw [Hsel.out]; exact hR, zG, ⟨zR, zV, zB⟩, zX, hw⟩
      case measure => simp [intOf]; omega
    ·--[IN
     have hfull : (ids.zip l).take j = ids.zip l := List.take_of_length_le (by rw [List.length_zip]; omega)
     have hsl := Hsl.out j
     rw [hfull] at hR hsl
     rw [hfull]
     obtain ⟨Sel, hSel⟩ : ∃ S, S = projSel b d fid fkind ftype (ids.zip l) := ⟨_, rfl⟩
     have Hst0 : Hid (projTo b d ty ids l (n + 1) = P0 ++ (if Sel.length = 0 ∧ frule = 1 then [(fid, leastOfF b 4 ⟨fid, fname, ftype, fkind, frule⟩)] else Sel)) := by show _ = _; rw [hSel]; exact Hsucc.out
     rw [← hSel] at hR hsl
     rw [← hSel]
     have f4 : wr.cell? ⟨X, 4, none⟩ = some (.int .i64 frule) := zX.cell 4
     have lX := zX.lt
     clear hfull hSel Hsucc Hsl hlsel
     by_cases hc0 : Sel.length = 0
     ·have hnil : Sel = [] := List.eq_nil_of_length_eq_zero hc0
      subst hnil
      clear hc0 hsl
      by_cases hr1 : frule = 1
      ·--[L
       subst hr1
       have Hst1 : Hid (projTo b d ty ids l (n + 1) = P0 ++ [(fid, leastOfF b 4 ⟨fid, fname, ftype, fkind, 1⟩)]) := Hst0.out
       rw [List.append_nil] at hR
       have s0 : wr.cell? ⟨w.heap.size, 0, none⟩ = some (.slice A b.length cap) := zB.cell 0
       have sl0 := zB.lt
       have f0 : wr.cell? ⟨X, 0, none⟩ = some (.int .i64 fid) := zX.cell 0
       have hcall := vLeastOf_any S _ b name fid wr ((RSl.fair RType.fair).below HB.out hw) (HW.out.below hw) HBk.out
       have hlf : LeastFieldF b name fid = (leastOfF b 4 ⟨fid, fname, ftype, fkind, 1⟩, 0) := by
        unfold LeastFieldF
        rw [if_neg (fun h => h HG.out), Hty.out, Hfo.out]
        rfl
       rw [hlf] at hcall
       obtain ⟨⟨pk, pn, ps, pi, pl⟩, hpe⟩ : ∃ p, p = leastOfF b 4 ⟨fid, fname, ftype, fkind, 1⟩ := ⟨_, rfl⟩
       rw [← hpe] at hcall Hst1
       have Hcall := Lib.hid hcall
       have Hst := Hst1
       clear hcall hlf hpe Hst0 Hst1
       go_wp2_with fail
       refine Hcall.out.mono ?_
       rintro e w5 ⟨cs5, rfl, hr5, hb5⟩
       dsimp only at hr5 ⊢
       obtain ⟨E1, f1, E2, f2, rfl, -, -⟩ := hr5.parts
       have hap := hR.apart (RVal.fair.keep hr5 (Keep.alloc _ _ (.cells [.int .i64 pk, .int .i64 pn, .string ps, .slice E1 pi.length f1, .slice E2 pl.length f2].toArray 37))) (fun y hy _ => ⟨.inl hy, .inl (Nat.le_trans hR.hb hy)⟩)
       have hX5 := zX.below hb5 zX.lt
       have zQ : Box (w5.alloc (.cells [.int .i64 pk, .int .i64 pn, .string ps, .slice E1 pi.length f1, .slice E2 pl.length f2].toArray 37)) w5.heap.size 37 [.int .i64 pk, .int .i64 pn, .string ps, .slice E1 pi.length f1, .slice E2 pl.length f2] := Box.new w5 _ _
       have hnQ : vl.ownBlock ≠ some w5.heap.size := fun e => by have := (hR.llt e).2; have := hb5.size; omega
       replace hR := (hR.below hb5).alloc (.cells [.int .i64 pk, .int .i64 pn, .string ps, .slice E1 pi.length f1, .slice E2 pl.length f2].toArray 37)
       replace zG := (zG.below hb5 zG.lt).alloc (.cells [.int .i64 pk, .int .i64 pn, .string ps, .slice E1 pi.length f1, .slice E2 pl.length f2].toArray 37)
       replace zR := (zR.below hb5 zR.lt).alloc (.cells [.int .i64 pk, .int .i64 pn, .string ps, .slice E1 pi.length f1, .slice E2 pl.length f2].toArray 37)
       replace zV := (zV.below hb5 zV.lt).alloc (.cells [.int .i64 pk, .int .i64 pn, .string ps, .slice E1 pi.length f1, .slice E2 pl.length f2].toArray 37)
       replace zB := (zB.below hb5 zB.lt).alloc (.cells [.int .i64 pk, .int .i64 pn, .string ps, .slice E1 pi.length f1, .slice E2 pl.length f2].toArray 37)
       replace zX := hX5.alloc (.cells [.int .i64 pk, .int .i64 pn, .string ps, .slice E1 pi.length f1, .slice E2 pl.length f2].toArray 37)
       replace hw := (below_via hw hb5 hw.size).alloc (below_via hw hb5 hw.size).size (.cells [.int .i64 pk, .int .i64 pn, .string ps, .slice E1 pi.length f1, .slice E2 pl.length f2].toArray 37)
       clear s0 sl0 f0 f4 lX hr5 hb5 Hcall hX5
       go_wp2_with fail
       generalize hWc : w5.alloc _ = wc at zQ zG zR zV zB zX hw hR hap ⊢
       generalize w5.heap.size = Q at zQ hnQ ⊢
       have HXr := Lib.hid hap
       have hn1 : ∀ k, vi.ownBlock = some k → ¬ (fun y => Apart (fun y => w1.heap.size + 1 + 1 ≤ y ∨ (S' y ∧ y < w.heap.size)) (w1.heap.size + 1) vi vl y ∧ y < wc.heap.size) k := fun k hk h => h.1.2.1 hk
       have hdr : wc.drew.heap.size = wc.heap.size := rfl
       clear hap hWc
       have hS := trivial
       have HSK : Hid (∀ W', Box W' (w1.heap.size + 1) 37 [.int .i64 2, .int .i64 0, .string ⟨#[]⟩, vi, vl] → Box W' X 55 [.int .i64 fid, .string fname, .string ftype, .int .i64 fkind, .int .i64 1] → Box W' Q 37 [.int .i64 pk, .int .i64 pn, .string ps, .slice E1 pi.length f1, .slice E2 pl.length f2] → (fun W' => (W'.cell? ⟨(w1.heap.size + 1), 3, none⟩ = some vi ∧ W'.cell? ⟨(w1.heap.size + 1), 4, none⟩ = some vl) ∧ W'.cell? ⟨X, 0, none⟩ = some (.int .i64 fid) ∧ (W'.cell? ⟨Q, 0, none⟩ = some (.int .i64 pk) ∧ W'.cell? ⟨Q, 1, none⟩ = some (.int .i64 pn) ∧ W'.cell? ⟨Q, 2, none⟩ = some (.string ps) ∧ W'.cell? ⟨Q, 3, none⟩ = some (.slice E1 pi.length f1) ∧ W'.cell? ⟨Q, 4, none⟩ = some (.slice E2 pl.length f2))) W') := fun W' h1 h2 h3 => ⟨⟨h1.cell 3, h1.cell 4⟩, h2.cell 0, h3.five⟩
       replace hR := hR.drew
       replace zG := zG.drew
       replace zR := zR.drew
       replace zV := zV.drew
       replace zB := zB.drew
       replace zX := zX.drew
       (first | (replace zQ := zQ.drew) | (replace zQ := zQ.grown hg5 hnQ))
       replace hw := below_drew hw
       replace hS := HSK.out _ zG zX zQ
       refine late_start (fun W' => (W'.cell? ⟨(w1.heap.size + 1), 3, none⟩ = some vi ∧ W'.cell? ⟨(w1.heap.size + 1), 4, none⟩ = some vl) ∧ W'.cell? ⟨X, 0, none⟩ = some (.int .i64 fid) ∧ (W'.cell? ⟨Q, 0, none⟩ = some (.int .i64 pk) ∧ W'.cell? ⟨Q, 1, none⟩ = some (.int .i64 pn) ∧ W'.cell? ⟨Q, 2, none⟩ = some (.string ps) ∧ W'.cell? ⟨Q, 3, none⟩ = some (.slice E1 pi.length f1) ∧ W'.cell? ⟨Q, 4, none⟩ = some (.slice E2 pl.length f2))) 12 (by kernel_rfl) ?_
       refine tkL 0 hS ?_
       try simp only [pu]
       refine tkL 1 hS ?_
       try simp only [pu]
       refine tkL 2 hS ?_
       try simp only [pu]
       refine tkL 3 hS ?_
       try simp only [pu]
       refine tkL 6 hS ?_
       try simp only [pu]
       refine tkL 7 hS ?_
       try simp only [pu]
       refine tkL 8 hS ?_
       try simp only [pu]
       refine late_two (i := 4) (j := 9) rfl rfl (by kernel_rfl) (fun K hK => ?_) (fun K hK => ?_)
       ·go_simp
        have hZ1 := Box.newB hw 3 [.int .i64 fid]
        try simp only [World.size_alloc] at hZ1
        replace hR := hR.alloc (.cells #[.int .i64 fid] 3)
        replace zG := zG.alloc (.cells #[.int .i64 fid] 3)
        replace zR := zR.alloc (.cells #[.int .i64 fid] 3)
        replace zV := zV.alloc (.cells #[.int .i64 fid] 3)
        replace zB := zB.alloc (.cells #[.int .i64 fid] 3)
        replace zX := zX.alloc (.cells #[.int .i64 fid] 3)
        (first | (replace zQ := zQ.alloc (.cells #[.int .i64 fid] 3)) | (replace zQ := zQ.grown hg5 hnQ))
        (first | (replace hZ2 := hZ2.alloc (.cells #[.int .i64 fid] 3)) | skip)
        replace hw := hw.alloc hw.size (.cells #[.int .i64 fid] 3)
        replace hS := HSK.out _ zG zX zQ
        refine hK.out _ _ (fun _ => hS) ?_
        clear hK K
        try simp only [pu]
        refine late_two (i := 5) (j := 9) rfl rfl (by kernel_rfl) (fun K hK => ?_) (fun K hK => ?_)
        ·refine step_append _ rfl (.tmp 88) (.tmp 91) rfl sl_ints RInt.fair rfl rfl hR.ids (Src.one (es := [.int .i64 fid]) (y := fid) rfl (Ones.of_all rfl) rfl hZ1.lies) (NoT.lt _) (by go_light; simp; omega) hR.hb ?_
         intro v1 wk1 ho1 hg1 hv1
         have hR' := hR.push_id ho1 hg1 hv1
         replace zG := zG.grownR hR.ids (by first | exact .inl (by go_light; omega) | exact .inr (by decide)) hg1
         replace zR := zR.grownR hR.ids (by first | exact .inl (by go_light; omega) | exact .inr (by decide)) hg1
         replace zV := zV.grownR hR.ids (by first | exact .inl (by go_light; omega) | exact .inr (by decide)) hg1
         replace zB := zB.grownR hR.ids (by first | exact .inl (by go_light; omega) | exact .inr (by decide)) hg1
         replace zX := zX.grownR hR.ids (by first | exact .inl (by go_light; omega) | exact .inr (by decide)) hg1
         (first | (replace zQ := zQ.grownR hR.ids (by first | exact .inl (by go_light; omega) | exact .inr (by decide)) hg1) | (replace zQ := zQ.grown hg5 hnQ))
         (first | (replace hZ2 := hZ2.grownR hR.ids (.inr (by decide)) hg1) | skip)
         replace hw := below_grown hw hg1 hw.size (fun g' h => by go_light; have := (hR.ilt h).1; omega)
         replace hR := hR'
         clear hR'
         replace hS := HSK.out _ zG zX zQ
         refine hK.out _ _ (fun _ => hS) ?_
         clear hK K
         try simp only [pu]
         refine tkL 11 hS ?_
         try simp only [pu]
         refine late_one (i := 9) rfl (by kernel_rfl) (fun K hK => ?_)
         go_simp
         have hZ2 := Box.newB hw 37 [.int .i64 pk, .int .i64 pn, .string ps, .slice E1 pi.length f1, .slice E2 pl.length f2]
         try simp only [World.size_alloc] at hZ2
         replace hR := hR.alloc (.cells [.int .i64 pk, .int .i64 pn, .string ps, .slice E1 pi.length f1, .slice E2 pl.length f2].toArray 37)
         replace zG := zG.alloc (.cells [.int .i64 pk, .int .i64 pn, .string ps, .slice E1 pi.length f1, .slice E2 pl.length f2].toArray 37)
         replace zR := zR.alloc (.cells [.int .i64 pk, .int .i64 pn, .string ps, .slice E1 pi.length f1, .slice E2 pl.length f2].toArray 37)
         replace zV := zV.alloc (.cells [.int .i64 pk, .int .i64 pn, .string ps, .slice E1 pi.length f1, .slice E2 pl.length f2].toArray 37)
         replace zB := zB.alloc (.cells [.int .i64 pk, .int .i64 pn, .string ps, .slice E1 pi.length f1, .slice E2 pl.length f2].toArray 37)
         replace zX := zX.alloc (.cells [.int .i64 pk, .int .i64 pn, .string ps, .slice E1 pi.length f1, .slice E2 pl.length f2].toArray 37)
         (first | (replace zQ := zQ.alloc (.cells [.int .i64 pk, .int .i64 pn, .string ps, .slice E1 pi.length f1, .slice E2 pl.length f2].toArray 37)) | (replace zQ := zQ.grown hg5 hnQ))
         (first | (replace hZ1 := hZ1.alloc (.cells [.int .i64 pk, .int .i64 pn, .string ps, .slice E1 pi.length f1, .slice E2 pl.length f2].toArray 37)) | skip)
         replace hw := hw.alloc hw.size (.cells [.int .i64 pk, .int .i64 pn, .string ps, .slice E1 pi.length f1, .slice E2 pl.length f2].toArray 37)
         replace hS := HSK.out _ zG zX zQ
         refine hK.out _ _ (fun _ => hS) ?_
         clear hK K
         try simp only [pu]
         refine late_one (i := 10) rfl (by kernel_rfl) (fun K hK => ?_)
         refine step_append _ rfl (.tmp 94) (.tmp 96) rfl sl_vals RVal.fair rfl rfl hR.lrow (Src.one (es := [.int .i64 pk, .int .i64 pn, .string ps, .slice E1 pi.length f1, .slice E2 pl.length f2]) (y := ValueD.mk pk pn ps pi pl) rfl (Ones.of_all rfl) (hR.apart2 (RVal.fair.keep HXr.out (by first | exact (((Keep.drew _ _).trans (Keep.alloc _ _ _)).trans (Keep.of_grown hg1 hn1)).trans (Keep.alloc _ _ _) | exact (((Keep.drew _ _).trans (Keep.alloc _ _ _)).trans (Keep.alloc _ _ _)).trans (Keep.of_grown hg1 hn1))) ?ap) hZ2.lies) (fun _ h => h.2) (by go_light; simp; omega) hR.hb ?_
         case ap =>
          rintro y ⟨hy1, hy2⟩
          refine ⟨hy1.1, fun e => ?_, hy1.2.2.1, hy1.2.2.2⟩
          rcases hv1 with h | h
          ·exact hy1.2.1 (h ▸ e)
          ·rw [h] at e
           have e' := Option.some.inj e
           simp at e'
           go_light
           omega
         intro v5 w5 ho5 hg5 hv5
         have hR' := hR.push_l ho5 hg5 hv5
         replace zG := zG.grownR hR.l (by first | exact .inl (by go_light; omega) | exact .inr (by decide)) hg5
         replace zR := zR.grownR hR.l (by first | exact .inl (by go_light; omega) | exact .inr (by decide)) hg5
         replace zV := zV.grownR hR.l (by first | exact .inl (by go_light; omega) | exact .inr (by decide)) hg5
         replace zB := zB.grownR hR.l (by first | exact .inl (by go_light; omega) | exact .inr (by decide)) hg5
         replace zX := zX.grownR hR.l (by first | exact .inl (by go_light; omega) | exact .inr (by decide)) hg5
         (first | (replace zQ := zQ.grownR hR.l (by first | exact .inl (by go_light; omega) | exact .inr (by decide)) hg5) | (replace zQ := zQ.grown hg5 hnQ))
         replace hw := below_grown hw hg5 hw.size (fun g' h => by go_light; have := (hR.llt h).1; omega)
         replace hR := hR'
         clear hR'
         replace hS := HSK.out _ zG zX zQ
         have fz3 := zG.frozen 3
         have cz3 := zG.cell 3
         have fz4 := zG.frozen 4
         have cz4 := zG.cell 4
         have lz := zG.lt
         simp only [List.getElem?_cons_zero, List.getElem?_cons_succ] at cz3 cz4
         obtain ⟨R1, p1, rfl, _⟩ := hR.ids.form
         obtain ⟨R2, p2, rfl, _⟩ := hR.l.form
         refine hK.out _ _ (fun _ => hS) ?_
         clear hK K
         try simp only [pu]
         refine late_one (i := 12) rfl (by kernel_rfl) (fun K hK => ?_)
         go_simp
         refine hK.out _ _ (fun h => absurd h (by decide)) ?_
         clear hK K
         try simp only [pu]
         refine late_one (i := 13) rfl (by kernel_rfl) (fun K hK => ?_)
         go_simp
         refine hK.out _ _ (fun h => absurd h (by decide)) ?_
         clear hK K
         try simp only [pu]
         refine late_one (i := 14) rfl (by kernel_rfl) (fun K hK => ?_)
         go_simp
         refine hK.out _ _ (fun h => absurd h (by decide)) ?_
         clear hK K
         try simp only [pu]
         refine late_done (by kernel_rfl) ?_ _
         simp only [List.length_append, List.length_map, List.length_cons, List.length_nil, Nat.zero_add] at hR
         replace hR := (hR.setCell 3 (.slice R1 (P0.length + 1) p1)).setCell 4 (.slice R2 (P0.length + 1) p2)
         replace zG := (zG.set_ 3 (.slice R1 (P0.length + 1) p1)).set_ 4 (.slice R2 (P0.length + 1) p2)
         simp only [List.set_cons_zero, List.set_cons_succ, List.length_append, List.length_map, List.length_cons, List.length_nil, Nat.zero_add] at zG
         replace zR := zR.far (p := ⟨(w1.heap.size + 1), 3, none⟩) (by first | (simp; done) | (simp; omega)) (.slice R1 (P0.length + 1) p1)
         replace zV := zV.far (p := ⟨(w1.heap.size + 1), 3, none⟩) (by first | (simp; done) | (simp; omega)) (.slice R1 (P0.length + 1) p1)
         replace zB := zB.far (p := ⟨(w1.heap.size + 1), 3, none⟩) (by first | (simp; done) | (simp; omega)) (.slice R1 (P0.length + 1) p1)
         replace zX := zX.far (p := ⟨(w1.heap.size + 1), 3, none⟩) (by first | (simp; done) | (simp; omega)) (.slice R1 (P0.length + 1) p1)
         replace zR := zR.far (p := ⟨(w1.heap.size + 1), 4, none⟩) (by first | (simp; done) | (simp; omega)) (.slice R2 (P0.length + 1) p2)
         replace zV := zV.far (p := ⟨(w1.heap.size + 1), 4, none⟩) (by first | (simp; done) | (simp; omega)) (.slice R2 (P0.length + 1) p2)
         replace zB := zB.far (p := ⟨(w1.heap.size + 1), 4, none⟩) (by first | (simp; done) | (simp; omega)) (.slice R2 (P0.length + 1) p2)
         replace zX := zX.far (p := ⟨(w1.heap.size + 1), 4, none⟩) (by first | (simp; done) | (simp; omega)) (.slice R2 (P0.length + 1) p2)
         replace hw := (hw.setCell (p := ⟨(w1.heap.size + 1), 3, none⟩) (by first | (simp; done) | (simp; omega)) (.slice R1 (P0.length + 1) p1)).setCell (p := ⟨(w1.heap.size + 1), 4, none⟩) (by first | (simp; done) | (simp; omega)) (.slice R2 (P0.length + 1) p2)
         clear hS fz3 cz3 fz4 cz4 lz hg5 hv5 ho5 hg1 hv1 ho1
         go_wp2_with fail
         go_roundw
         case rel => exact ⟨n + 1, _, _, by go_num, by go_light; omega, by rw [Hst.out]; simpa using hR, zG, ⟨zR, zV, zB⟩, hw⟩
         case measure => go_light; simp [intOf]; omega
        ·go_simp
         have hZ2 := Box.newB hw 37 [.int .i64 pk, .int .i64 pn, .string ps, .slice E1 pi.length f1, .slice E2 pl.length f2]
         try simp only [World.size_alloc] at hZ2
         replace hR := hR.alloc (.cells [.int .i64 pk, .int .i64 pn, .string ps, .slice E1 pi.length f1, .slice E2 pl.length f2].toArray 37)
         replace zG := zG.alloc (.cells [.int .i64 pk, .int .i64 pn, .string ps, .slice E1 pi.length f1, .slice E2 pl.length f2].toArray 37)
         replace zR := zR.alloc (.cells [.int .i64 pk, .int .i64 pn, .string ps, .slice E1 pi.length f1, .slice E2 pl.length f2].toArray 37)
         replace zV := zV.alloc (.cells [.int .i64 pk, .int .i64 pn, .string ps, .slice E1 pi.length f1, .slice E2 pl.length f2].toArray 37)
         replace zB := zB.alloc (.cells [.int .i64 pk, .int .i64 pn, .string ps, .slice E1 pi.length f1, .slice E2 pl.length f2].toArray 37)
         replace zX := zX.alloc (.cells [.int .i64 pk, .int .i64 pn, .string ps, .slice E1 pi.length f1, .slice E2 pl.length f2].toArray 37)
         (first | (replace zQ := zQ.alloc (.cells [.int .i64 pk, .int .i64 pn, .string ps, .slice E1 pi.length f1, .slice E2 pl.length f2].toArray 37)) | (replace zQ := zQ.grown hg5 hnQ))
         (first | (replace hZ1 := hZ1.alloc (.cells [.int .i64 pk, .int .i64 pn, .string ps, .slice E1 pi.length f1, .slice E2 pl.length f2].toArray 37)) | skip)
         replace hw := hw.alloc hw.size (.cells [.int .i64 pk, .int .i64 pn, .string ps, .slice E1 pi.length f1, .slice E2 pl.length f2].toArray 37)
         replace hS := HSK.out _ zG zX zQ
         refine hK.out _ _ (fun _ => hS) ?_
         clear hK K
         try simp only [pu]
         refine late_one (i := 5) rfl (by kernel_rfl) (fun K hK => ?_)
         refine step_append _ rfl (.tmp 88) (.tmp 91) rfl sl_ints RInt.fair rfl rfl hR.ids (Src.one (es := [.int .i64 fid]) (y := fid) rfl (Ones.of_all rfl) rfl hZ1.lies) (NoT.lt _) (by go_light; simp; omega) hR.hb ?_
         intro v1 wk1 ho1 hg1 hv1
         have hR' := hR.push_id ho1 hg1 hv1
         replace zG := zG.grownR hR.ids (by first | exact .inl (by go_light; omega) | exact .inr (by decide)) hg1
         replace zR := zR.grownR hR.ids (by first | exact .inl (by go_light; omega) | exact .inr (by decide)) hg1
         replace zV := zV.grownR hR.ids (by first | exact .inl (by go_light; omega) | exact .inr (by decide)) hg1
         replace zB := zB.grownR hR.ids (by first | exact .inl (by go_light; omega) | exact .inr (by decide)) hg1
         replace zX := zX.grownR hR.ids (by first | exact .inl (by go_light; omega) | exact .inr (by decide)) hg1
         (first | (replace zQ := zQ.grownR hR.ids (by first | exact .inl (by go_light; omega) | exact .inr (by decide)) hg1) | (replace zQ := zQ.grown hg5 hnQ))
         (first | (replace hZ2 := hZ2.grownR hR.ids (.inr (by decide)) hg1) | skip)
         replace hw := below_grown hw hg1 hw.size (fun g' h => by go_light; have := (hR.ilt h).1; omega)
         replace hR := hR'
         clear hR'
         replace hS := HSK.out _ zG zX zQ
         refine hK.out _ _ (fun _ => hS) ?_
         clear hK K
         try simp only [pu]
         refine tkL 11 hS ?_
         try simp only [pu]
         refine late_one (i := 10) rfl (by kernel_rfl) (fun K hK => ?_)
         refine step_append _ rfl (.tmp 94) (.tmp 96) rfl sl_vals RVal.fair rfl rfl hR.lrow (Src.one (es := [.int .i64 pk, .int .i64 pn, .string ps, .slice E1 pi.length f1, .slice E2 pl.length f2]) (y := ValueD.mk pk pn ps pi pl) rfl (Ones.of_all rfl) (hR.apart2 (RVal.fair.keep HXr.out (by first | exact (((Keep.drew _ _).trans (Keep.alloc _ _ _)).trans (Keep.of_grown hg1 hn1)).trans (Keep.alloc _ _ _) | exact (((Keep.drew _ _).trans (Keep.alloc _ _ _)).trans (Keep.alloc _ _ _)).trans (Keep.of_grown hg1 hn1))) ?ap) hZ2.lies) (fun _ h => h.2) (by go_light; simp; omega) hR.hb ?_
         case ap =>
          rintro y ⟨hy1, hy2⟩
          refine ⟨hy1.1, fun e => ?_, hy1.2.2.1, hy1.2.2.2⟩
          rcases hv1 with h | h
          ·exact hy1.2.1 (h ▸ e)
          ·rw [h] at e
           have e' := Option.some.inj e
           simp at e'
           go_light
           omega
         intro v5 w5 ho5 hg5 hv5
         have hR' := hR.push_l ho5 hg5 hv5
         replace zG := zG.grownR hR.l (by first | exact .inl (by go_light; omega) | exact .inr (by decide)) hg5
         replace zR := zR.grownR hR.l (by first | exact .inl (by go_light; omega) | exact .inr (by decide)) hg5
         replace zV := zV.grownR hR.l (by first | exact .inl (by go_light; omega) | exact .inr (by decide)) hg5
         replace zB := zB.grownR hR.l (by first | exact .inl (by go_light; omega) | exact .inr (by decide)) hg5
         replace zX := zX.grownR hR.l (by first | exact .inl (by go_light; omega) | exact .inr (by decide)) hg5
         (first | (replace zQ := zQ.grownR hR.l (by first | exact .inl (by go_light; omega) | exact .inr (by decide)) hg5) | (replace zQ := zQ.grown hg5 hnQ))
         replace hw := below_grown hw hg5 hw.size (fun g' h => by go_light; have := (hR.llt h).1; omega)
         replace hR := hR'
         clear hR'
         replace hS := HSK.out _ zG zX zQ
         have fz3 := zG.frozen 3
         have cz3 := zG.cell 3
         have fz4 := zG.frozen 4
         have cz4 := zG.cell 4
         have lz := zG.lt
         simp only [List.getElem?_cons_zero, List.getElem?_cons_succ] at cz3 cz4
         obtain ⟨R1, p1, rfl, _⟩ := hR.ids.form
         obtain ⟨R2, p2, rfl, _⟩ := hR.l.form
         refine hK.out _ _ (fun _ => hS) ?_
         clear hK K
         try simp only [pu]
         refine late_one (i := 12) rfl (by kernel_rfl) (fun K hK => ?_)
         go_simp
         refine hK.out _ _ (fun h => absurd h (by decide)) ?_
         clear hK K
         try simp only [pu]
         refine late_one (i := 13) rfl (by kernel_rfl) (fun K hK => ?_)
         go_simp
         refine hK.out _ _ (fun h => absurd h (by decide)) ?_
         clear hK K
         try simp only [pu]
         refine late_one (i := 14) rfl (by kernel_rfl) (fun K hK => ?_)
         go_simp
         refine hK.out _ _ (fun h => absurd h (by decide)) ?_
         clear hK K
         try simp only [pu]
         refine late_done (by kernel_rfl) ?_ _
         simp only [List.length_append, List.length_map, List.length_cons, List.length_nil, Nat.zero_add] at hR
         replace hR := (hR.setCell 3 (.slice R1 (P0.length + 1) p1)).setCell 4 (.slice R2 (P0.length + 1) p2)
         replace zG := (zG.set_ 3 (.slice R1 (P0.length + 1) p1)).set_ 4 (.slice R2 (P0.length + 1) p2)
         simp only [List.set_cons_zero, List.set_cons_succ, List.length_append, List.length_map, List.length_cons, List.length_nil, Nat.zero_add] at zG
         replace zR := zR.far (p := ⟨(w1.heap.size + 1), 3, none⟩) (by first | (simp; done) | (simp; omega)) (.slice R1 (P0.length + 1) p1)
         replace zV := zV.far (p := ⟨(w1.heap.size + 1), 3, none⟩) (by first | (simp; done) | (simp; omega)) (.slice R1 (P0.length + 1) p1)
         replace zB := zB.far (p := ⟨(w1.heap.size + 1), 3, none⟩) (by first | (simp; done) | (simp; omega)) (.slice R1 (P0.length + 1) p1)
         replace zX := zX.far (p := ⟨(w1.heap.size + 1), 3, none⟩) (by first | (simp; done) | (simp; omega)) (.slice R1 (P0.length + 1) p1)
         replace zR := zR.far (p := ⟨(w1.heap.size + 1), 4, none⟩) (by first | (simp; done) | (simp; omega)) (.slice R2 (P0.length + 1) p2)
         replace zV := zV.far (p := ⟨(w1.heap.size + 1), 4, none⟩) (by first | (simp; done) | (simp; omega)) (.slice R2 (P0.length + 1) p2)
         replace zB := zB.far (p := ⟨(w1.heap.size + 1), 4, none⟩) (by first | (simp; done) | (simp; omega)) (.slice R2 (P0.length + 1) p2)
         replace zX := zX.far (p := ⟨(w1.heap.size + 1), 4, none⟩) (by first | (simp; done) | (simp; omega)) (.slice R2 (P0.length + 1) p2)
         replace hw := (hw.setCell (p := ⟨(w1.heap.size + 1), 3, none⟩) (by first | (simp; done) | (simp; omega)) (.slice R1 (P0.length + 1) p1)).setCell (p := ⟨(w1.heap.size + 1), 4, none⟩) (by first | (simp; done) | (simp; omega)) (.slice R2 (P0.length + 1) p2)
         clear hS fz3 cz3 fz4 cz4 lz hg5 hv5 ho5 hg1 hv1 ho1
         go_wp2_with fail
         go_roundw
         case rel => exact ⟨n + 1, _, _, by go_num, by go_light; omega, by rw [Hst.out]; simpa using hR, zG, ⟨zR, zV, zB⟩, hw⟩
         case measure => go_light; simp [intOf]; omega
       ·go_simp
        have hZ2 := Box.newB hw 37 [.int .i64 pk, .int .i64 pn, .string ps, .slice E1 pi.length f1, .slice E2 pl.length f2]
        try simp only [World.size_alloc] at hZ2
        replace hR := hR.alloc (.cells [.int .i64 pk, .int .i64 pn, .string ps, .slice E1 pi.length f1, .slice E2 pl.length f2].toArray 37)
        replace zG := zG.alloc (.cells [.int .i64 pk, .int .i64 pn, .string ps, .slice E1 pi.length f1, .slice E2 pl.length f2].toArray 37)
        replace zR := zR.alloc (.cells [.int .i64 pk, .int .i64 pn, .string ps, .slice E1 pi.length f1, .slice E2 pl.length f2].toArray 37)
        replace zV := zV.alloc (.cells [.int .i64 pk, .int .i64 pn, .string ps, .slice E1 pi.length f1, .slice E2 pl.length f2].toArray 37)
        replace zB := zB.alloc (.cells [.int .i64 pk, .int .i64 pn, .string ps, .slice E1 pi.length f1, .slice E2 pl.length f2].toArray 37)
        replace zX := zX.alloc (.cells [.int .i64 pk, .int .i64 pn, .string ps, .slice E1 pi.length f1, .slice E2 pl.length f2].toArray 37)
        (first | (replace zQ := zQ.alloc (.cells [.int .i64 pk, .int .i64 pn, .string ps, .slice E1 pi.length f1, .slice E2 pl.length f2].toArray 37)) | (replace zQ := zQ.grown hg5 hnQ))
        (first | (replace hZ1 := hZ1.alloc (.cells [.int .i64 pk, .int .i64 pn, .string ps, .slice E1 pi.length f1, .slice E2 pl.length f2].toArray 37)) | skip)
        replace hw := hw.alloc hw.size (.cells [.int .i64 pk, .int .i64 pn, .string ps, .slice E1 pi.length f1, .slice E2 pl.length f2].toArray 37)
        replace hS := HSK.out _ zG zX zQ
        refine hK.out _ _ (fun _ => hS) ?_
        clear hK K
        try simp only [pu]
        refine late_one (i := 4) rfl (by kernel_rfl) (fun K hK => ?_)
        go_simp
        have hZ1 := Box.newB hw 3 [.int .i64 fid]
        try simp only [World.size_alloc] at hZ1
        replace hR := hR.alloc (.cells #[.int .i64 fid] 3)
        replace zG := zG.alloc (.cells #[.int .i64 fid] 3)
        replace zR := zR.alloc (.cells #[.int .i64 fid] 3)
        replace zV := zV.alloc (.cells #[.int .i64 fid] 3)
        replace zB := zB.alloc (.cells #[.int .i64 fid] 3)
        replace zX := zX.alloc (.cells #[.int .i64 fid] 3)
        (first | (replace zQ := zQ.alloc (.cells #[.int .i64 fid] 3)) | (replace zQ := zQ.grown hg5 hnQ))
        (first | (replace hZ2 := hZ2.alloc (.cells #[.int .i64 fid] 3)) | skip)
        replace hw := hw.alloc hw.size (.cells #[.int .i64 fid] 3)
        replace hS := HSK.out _ zG zX zQ
        refine hK.out _ _ (fun _ => hS) ?_
        clear hK K
        try simp only [pu]
        refine late_one (i := 5) rfl (by kernel_rfl) (fun K hK => ?_)
        refine step_append _ rfl (.tmp 88) (.tmp 91) rfl sl_ints RInt.fair rfl rfl hR.ids (Src.one (es := [.int .i64 fid]) (y := fid) rfl (Ones.of_all rfl) rfl hZ1.lies) (NoT.lt _) (by go_light; simp; omega) hR.hb ?_
        intro v1 wk1 ho1 hg1 hv1
        have hR' := hR.push_id ho1 hg1 hv1
        replace zG := zG.grownR hR.ids (by first | exact .inl (by go_light; omega) | exact .inr (by decide)) hg1
        replace zR := zR.grownR hR.ids (by first | exact .inl (by go_light; omega) | exact .inr (by decide)) hg1
        replace zV := zV.grownR hR.ids (by first | exact .inl (by go_light; omega) | exact .inr (by decide)) hg1
        replace zB := zB.grownR hR.ids (by first | exact .inl (by go_light; omega) | exact .inr (by decide)) hg1
        replace zX := zX.grownR hR.ids (by first | exact .inl (by go_light; omega) | exact .inr (by decide)) hg1
        (first | (replace zQ := zQ.grownR hR.ids (by first | exact .inl (by go_light; omega) | exact .inr (by decide)) hg1) | (replace zQ := zQ.grown hg5 hnQ))
        (first | (replace hZ2 := hZ2.grownR hR.ids (.inr (by decide)) hg1) | skip)
        replace hw := below_grown hw hg1 hw.size (fun g' h => by go_light; have := (hR.ilt h).1; omega)
        replace hR := hR'
        clear hR'
        replace hS := HSK.out _ zG zX zQ
        refine hK.out _ _ (fun _ => hS) ?_
        clear hK K
        try simp only [pu]
        refine tkL 11 hS ?_
        try simp only [pu]
        refine late_one (i := 10) rfl (by kernel_rfl) (fun K hK => ?_)
        refine step_append _ rfl (.tmp 94) (.tmp 96) rfl sl_vals RVal.fair rfl rfl hR.lrow (Src.one (es := [.int .i64 pk, .int .i64 pn, .string ps, .slice E1 pi.length f1, .slice E2 pl.length f2]) (y := ValueD.mk pk pn ps pi pl) rfl (Ones.of_all rfl) (hR.apart2 (RVal.fair.keep HXr.out (by first | exact (((Keep.drew _ _).trans (Keep.alloc _ _ _)).trans (Keep.of_grown hg1 hn1)).trans (Keep.alloc _ _ _) | exact (((Keep.drew _ _).trans (Keep.alloc _ _ _)).trans (Keep.alloc _ _ _)).trans (Keep.of_grown hg1 hn1))) ?ap) hZ2.lies) (fun _ h => h.2) (by go_light; simp; omega) hR.hb ?_
        case ap =>
         rintro y ⟨hy1, hy2⟩
         refine ⟨hy1.1, fun e => ?_, hy1.2.2.1, hy1.2.2.2⟩
         rcases hv1 with h | h
         ·exact hy1.2.1 (h ▸ e)
         ·rw [h] at e
          have e' := Option.some.inj e
          simp at e'
          go_light
          omega
        intro v5 w5 ho5 hg5 hv5
        have hR' := hR.push_l ho5 hg5 hv5
        replace zG := zG.grownR hR.l (by first | exact .inl (by go_light; omega) | exact .inr (by decide)) hg5
        replace zR := zR.grownR hR.l (by first | exact .inl (by go_light; omega) | exact .inr (by decide)) hg5
        replace zV := zV.grownR hR.l (by first | exact .inl (by go_light; omega) | exact .inr (by decide)) hg5
        replace zB := zB.grownR hR.l (by first | exact .inl (by go_light; omega) | exact .inr (by decide)) hg5
        replace zX := zX.grownR hR.l (by first | exact .inl (by go_light; omega) | exact .inr (by decide)) hg5
        (first | (replace zQ := zQ.grownR hR.l (by first | exact .inl (by go_light; omega) | exact .inr (by decide)) hg5) | (replace zQ := zQ.grown hg5 hnQ))
        replace hw := below_grown hw hg5 hw.size (fun g' h => by go_light; have := (hR.llt h).1; omega)
        replace hR := hR'
        clear hR'
        replace hS := HSK.out _ zG zX zQ
        have fz3 := zG.frozen 3
        have cz3 := zG.cell 3
        have fz4 := zG.frozen 4
        have cz4 := zG.cell 4
        have lz := zG.lt
        simp only [List.getElem?_cons_zero, List.getElem?_cons_succ] at cz3 cz4
        obtain ⟨R1, p1, rfl, _⟩ := hR.ids.form
        obtain ⟨R2, p2, rfl, _⟩ := hR.l.form
        refine hK.out _ _ (fun _ => hS) ?_
        clear hK K
        try simp only [pu]
        refine late_one (i := 12) rfl (by kernel_rfl) (fun K hK => ?_)
        go_simp
        refine hK.out _ _ (fun h => absurd h (by decide)) ?_
        clear hK K
        try simp only [pu]
        refine late_one (i := 13) rfl (by kernel_rfl) (fun K hK => ?_)
        go_simp
        refine hK.out _ _ (fun h => absurd h (by decide)) ?_
        clear hK K
        try simp only [pu]
        refine late_one (i := 14) rfl (by kernel_rfl) (fun K hK => ?_)
        go_simp
        refine hK.out _ _ (fun h => absurd h (by decide)) ?_
        clear hK K
        try simp only [pu]
        refine late_done (by kernel_rfl) ?_ _
        simp only [List.length_append, List.length_map, List.length_cons, List.length_nil, Nat.zero_add] at hR
        replace hR := (hR.setCell 3 (.slice R1 (P0.length + 1) p1)).setCell 4 (.slice R2 (P0.length + 1) p2)
        replace zG := (zG.set_ 3 (.slice R1 (P0.length + 1) p1)).set_ 4 (.slice R2 (P0.length + 1) p2)
        simp only [List.set_cons_zero, List.set_cons_succ, List.length_append, List.length_map, List.length_cons, List.length_nil, Nat.zero_add] at zG
        replace zR := zR.far (p := ⟨(w1.heap.size + 1), 3, none⟩) (by first | (simp; done) | (simp; omega)) (.slice R1 (P0.length + 1) p1)
        replace zV := zV.far (p := ⟨(w1.heap.size + 1), 3, none⟩) (by first | (simp; done) | (simp; omega)) (.slice R1 (P0.length + 1) p1)
        replace zB := zB.far (p := ⟨(w1.heap.size + 1), 3, none⟩) (by first | (simp; done) | (simp; omega)) (.slice R1 (P0.length + 1) p1)
        replace zX := zX.far (p := ⟨(w1.heap.size + 1), 3, none⟩) (by first | (simp; done) | (simp; omega)) (.slice R1 (P0.length + 1) p1)
        replace zR := zR.far (p := ⟨(w1.heap.size + 1), 4, none⟩) (by first | (simp; done) | (simp; omega)) (.slice R2 (P0.length + 1) p2)
        replace zV := zV.far (p := ⟨(w1.heap.size + 1), 4, none⟩) (by first | (simp; done) | (simp; omega)) (.slice R2 (P0.length + 1) p2)
        replace zB := zB.far (p := ⟨(w1.heap.size + 1), 4, none⟩) (by first | (simp; done) | (simp; omega)) (.slice R2 (P0.length + 1) p2)
        replace zX := zX.far (p := ⟨(w1.heap.size + 1), 4, none⟩) (by first | (simp; done) | (simp; omega)) (.slice R2 (P0.length + 1) p2)
        replace hw := (hw.setCell (p := ⟨(w1.heap.size + 1), 3, none⟩) (by first | (simp; done) | (simp; omega)) (.slice R1 (P0.length + 1) p1)).setCell (p := ⟨(w1.heap.size + 1), 4, none⟩) (by first | (simp; done) | (simp; omega)) (.slice R2 (P0.length + 1) p2)
        clear hS fz3 cz3 fz4 cz4 lz hg5 hv5 ho5 hg1 hv1 ho1
        go_wp2_with fail
        go_roundw
        case rel => exact ⟨n + 1, _, _, by go_num, by go_light; omega, by rw [Hst.out]; simpa using hR, zG, ⟨zR, zV, zB⟩, hw⟩
        case measure => go_light; simp [intOf]; omega
      ·have hrb : (frule == 1) = false := by simpa using hr1
       have Hst : Hid (projTo b d ty ids l (n + 1) = P0 ++ []) := by show _ = _; rw [Hst0.out, if_neg (fun h => hr1 h.2)]
       clear hr1 Hst0
       go_wp2_with fail
       go_roundw
       case rel => exact ⟨n + 1, _, _, by go_num, by omega, by rw [Hst.out]; exact hR, zG, ⟨zR, zV, zB⟩, hw⟩
       case measure => simp [intOf]; omega
     ·have Hst : Hid (projTo b d ty ids l (n + 1) = P0 ++ Sel) := by show _ = _; rw [Hst0.out, if_neg (fun h => hc0 h.1)]
      obtain ⟨c, hc⟩ : ∃ c : Int, c = (Sel.length : Nat) := ⟨_, rfl⟩
      rw [← hc]
      have hcb : (c == 0) = false := by
       rw [beq_eq_false_iff_ne]
       omega
      clear Hst0 hc0 hc
      go_wp2_with fail
      go_roundw
      case rel => exact ⟨n + 1, _, _, by go_num, by omega, by rw [Hst.out]; exact hR, zG, ⟨zR, zV, zB⟩, hw⟩
      case measure => simp [intOf]; omega
  ·--[END
   obtain rfl : n = ty.fields.length := by omega
   have hle := HLen.out _ hn
   have hv0 := Hpv.out
   obtain ⟨L, hL⟩ : ∃ L, L = projTo b d ty ids l ty.fields.length := ⟨_, rfl⟩
   rw [← hL] at hro hle hv0
   have hv2 : r = .mk 2 0 ⟨#[]⟩ (L.map (·.1)) (L.map (·.2)) := hv0
   obtain ⟨R1, p1, rfl, _⟩ := hro.ids.form
   obtain ⟨R2, p2, rfl, _⟩ := hro.l.form
   have hrd : RVal (fun y => w1.heap.size + 1 + 1 ≤ y ∨ (S' y ∧ y < w.heap.size)) wr [.int .i64 2, .int .i64 0, .string ⟨#[]⟩, .slice R1 (L.map (·.1)).length p1, .slice R2 (L.map (·.2)).length p2] r := by
    rw [hv2]
    exact hro.read (S := (fun y => w1.heap.size + 1 + 1 ≤ y ∨ (S' y ∧ y < w.heap.size))) (fun y hy => .inl hy) (fun y hy => hy) (by rw [List.length_map]; omega) (by rw [List.length_map]; omega) 2 0 ⟨#[]⟩
   generalize (L.map (·.1)).length = L1 at *
   generalize (L.map (·.2)).length = L2 at *
   obtain ⟨e0, e1, e2, e3, e4⟩ := zG.five
   obtain ⟨r0, r1, r2, r3, r4⟩ := zR.five
   have hlg := zG.lt
   have g0 := zR.frozen 0
   have g1 := zR.frozen 1
   have g2 := zR.frozen 2
   have g3 := zR.frozen 3
   have g4 := zR.frozen 4
   have hlr := zR.lt
   have Hrd := Lib.hid hrd
   clear hv0 hv2 hrd hro hle hL zV zB
   go_wp2_with fail
   change bodyPost _ _ _ _ _ (setCells wr (w.heap.size + 1 + 1) 0 [.int .i64 2, .int .i64 0, .string ⟨#[]⟩, .slice R1 L1 p1, .slice R2 L2 p2])
   have hb5 := zR.setCells [.int .i64 2, .int .i64 0, .string ⟨#[]⟩, .slice R1 L1 p1, .slice R2 L2 p2] rfl
   have hw5 := below_setCells (g := w.heap.size + 1 + 1) (by go_light; omega) [.int .i64 2, .int .i64 0, .string ⟨#[]⟩, .slice R1 L1 p1, .slice R2 L2 p2] 0 _ hb
   have hrd2 : RVal (Un S' w) (setCells wr (w.heap.size + 1 + 1) 0 [.int .i64 2, .int .i64 0, .string ⟨#[]⟩, .slice R1 L1 p1, .slice R2 L2 p2]) [.int .i64 2, .int .i64 0, .string ⟨#[]⟩, .slice R1 L1 p1, .slice R2 L2 p2] r :=
    RVal.fair.mono (RVal.fair.keep Hrd.out (Keep.setCells (by rintro (h | h) <;> omega) _ _ _)) (fun y hy _ => hy.elim (fun h => .inr (by go_light; omega)) (fun h => .inl h.1))
   generalize setCells wr (w.heap.size + 1 + 1) 0 _ = W at hb5 hw5 hrd2 ⊢
   exact bodyPost_ret (project_results hb5 rfl) rfl ⟨_, rfl, hrd2, hw5⟩
theorem proj_any (S : Nat → Prop) (vb : Value) (b : BookD) (hg : goodF b = 0) (hB : BookOk b) : ∀ (d : Nat), ProjAt S vb b d
 | 0 => by
  rintro S' name cs ⟨kind, nn, s, ids, l⟩ w hd
  rw [depthV] at hd
  omega
 | d + 1 => proj_succ S vb b hg hB d (proj_any S vb b hg hB d)
end Go.Proofs.YtfidfakcbjoilaaGreatDoor
