/- Several texts of walks and laws in one file; what each proves stands at its head. -/
import Derived.Test.YtfidfakcbjoilaaGreatDoorProjRec
import Derived.Test.YtfidfakcbjoilaaGreatDoorThose2
import Derived.Test.YtfidfakcbjoilaaGreatDoorRefLeastB
import Derived.Test.YtfidfakcbjoilaaGreatDoorBase
import Derived.Test.YtfidfakcbjoilaaGreatDoorLates
import Derived.Test.YtfidfakcbjoilaaGreatDoorProject
import Derived.Test.YtfidfakcbjoilaaGreatDoorRefT
import Derived.Test.YtfidfakcbjoilaaGreatDoorRefCopyV
import Derived.Test.YtfidfakcbjoilaaGreatDoorRefSame
import Derived.Test.YtfidfakcbjoilaaGreatDoorLawF
set_option linter.all false
set_option maxRecDepth 100000
set_option maxHeartbeats 8000000
namespace Go.Proofs.YtfidfakcbjoilaaGreatDoor
open Go.RowKit
attribute [local go_sem ↓] Go.wp_at_zero Go.wp_at_succ
theorem seen_results {W : World} {a : Act} {g : Nat} {c0 c1 c2 c3 c4 : Value} (hb : Box W g 37 [c0, c1, c2, c3, c4]) (h4 : a.tmps.getD 6 undef = .pointer (some ⟨g, 0, none⟩)) :
  (results Tryz.f34 a.tmps).run Tryz.prog W = .ok (.agg #[c0, c1, c2, c3, c4]) W := by
 obtain ⟨e0, e1, e2, e3, e4⟩ := hb.five
 simp only [Array.getD_eq_getD_getElem?] at h4
 simp [results, Tryz.results34, go_sem, h4, e0, e1, e2, e3, e4]
def seenL (b : BookD) (d : Nat) (f : FieldD) (L : List ValueD) : List ValueD := if L.length = 0 ∧ f.rule = 1 then [leastOfF b 4 f] else if f.kind = 5 then L.map (projV b d (typeOf b f.type)) else L
theorem projField_those {b : BookD} {d : Nat} {ids : List Int} {l : List ValueD} (hl : ids.length = l.length) (f : FieldD) : projField b d ids l f = (seenL b d f (thoseZ (ids.zip l) f.id)).map fun x => (f.id, x) := by
 obtain ⟨fid, fname, ftype, fkind, frule⟩ := f
 rw [projField_eq hl]
 have hlen : (projSel b d fid fkind ftype (ids.zip l)).length = (thoseZ (ids.zip l) fid).length := by unfold projSel thoseZ; rw [List.length_map, List.length_map]
 have hsel : projSel b d fid fkind ftype (ids.zip l) = (if fkind = 5 then (thoseZ (ids.zip l) fid).map (projV b d (typeOf b ftype)) else thoseZ (ids.zip l) fid).map fun x => (fid, x) := by
  unfold projSel thoseZ
  generalize ids.zip l = z
  induction z with
  | nil => by_cases h : fkind = 5 <;> simp [h]
  | cons p z ih =>
   rw [List.filter_cons]
   by_cases hp : p.1 = fid
   ·rw [if_pos (by simpa using hp)]
    by_cases h : fkind = 5
    ·simp only [h, if_true, List.map_cons, hp] at ih ⊢
     rw [ih]
    ·simp only [h, if_false, List.map_cons, hp] at ih ⊢
     rw [ih]
   ·rw [if_neg (by simpa using hp)]
    exact ih
 unfold seenL
 simp only [hlen]
 by_cases h1 : (thoseZ (ids.zip l) fid).length = 0 ∧ frule = 1
 ·rw [if_pos h1, if_pos h1]; rfl
 ·rw [if_neg h1, if_neg h1, hsel]
theorem seenL_len (b : BookD) (d : Nat) (f : FieldD) (L : List ValueD) : (seenL b d f L).length ≤ L.length + 1 := by
 unfold seenL
 split
 ·simp
 ·split <;> simp
def mixL (F : ValueD → ValueD) (L : List ValueD) (i : Nat) : List ValueD := (L.take i).map F ++ L.drop i
theorem mixL_len (F : ValueD → ValueD) (L : List ValueD) (i : Nat) : (mixL F L i).length = L.length := by
 unfold mixL
 rw [List.length_append, List.length_map, List.length_take, List.length_drop]; omega
theorem mixL_at (F : ValueD → ValueD) {L : List ValueD} {i : Nat} (h : i < L.length) : (mixL F L i)[i]'(by rw [mixL_len]; exact h) = L[i] := by
 unfold mixL
 rw [List.getElem_append_right (by rw [List.length_map, List.length_take]; omega)]
 simp [List.getElem_drop, Nat.min_eq_left (Nat.le_of_lt h)]
theorem mixL_set (F : ValueD → ValueD) {L : List ValueD} {i : Nat} (h : i < L.length) : (mixL F L i).set i (F L[i]) = mixL F L (i + 1) := by
 unfold mixL
 rw [List.set_append_right _ _ (by rw [List.length_map, List.length_take]; omega), List.take_succ_eq_append_getElem h, List.map_append, List.append_assoc]
 congr 1
 rw [List.length_map, List.length_take, Nat.min_eq_left (Nat.le_of_lt h), Nat.sub_self, List.drop_eq_getElem_cons h]
 rfl
theorem cell_beside3 {w : World} {g i j : Nat} {u : Value} (h : i ≠ j) : (w.setCell ⟨g, i, none⟩ u).cell? ⟨g, j, none⟩ = w.cell? ⟨g, j, none⟩ := World.cell?_setCell_other _ _ _ _ (by intro e; simp only [Addr.mk.injEq] at e; omega)
theorem size_setCells : ∀ (bs : List Value) (w : World) (g i : Nat), (setCells w g i bs).heap.size = w.heap.size
 | [], _, _, _ => rfl
 | b :: bs, w, g, i => by
  rw [setCells, size_setCells bs]; simp [World.setCell]
theorem seen_store {S' : Nat → Prop} {lo K0 : Nat} {T : Nat → Prop} {wr Wd w7 : World} {gr n c12 i : Nat} {M : List ValueD} {p : ValueD} {cs : List Value} (hO : Own K0 37 5 RVal T wr (.slice (some ⟨gr, 0, none⟩) n c12) M) (hl : M.length = n) (hi : i < n) (hgr : K0 ≤ gr) (hgl : gr < wr.heap.size) (_ : ∀ y, T y → y < wr.heap.size) (hwd : Wd.heap.size = wr.heap.size) (hB : Below wr.heap.size wr w7) (hr : RVal (Un T Wd) w7 cs p) (hc : cs.length = 5) :
  (w7.frozen? ⟨gr, i * 5, none⟩ = false ∧ w7.frozen? ⟨gr, i * 5 + 1, none⟩ = false ∧ w7.frozen? ⟨gr, i * 5 + 2, none⟩ = false ∧ w7.frozen? ⟨gr, i * 5 + 3, none⟩ = false ∧ w7.frozen? ⟨gr, i * 5 + 4, none⟩ = false) ∧
  Own K0 37 5 RVal (fun y => T y ∨ (wr.heap.size ≤ y ∧ y < w7.heap.size)) (setCells w7 gr (i * 5) cs) (.slice (some ⟨gr, 0, none⟩) n c12) (M.set i p) := by
 subst hl
 have hOc := hO
 obtain ⟨_, _, _, hnt, _⟩ := hOc
 have hO7 := Own.below RVal.fair hO hB
 refine ⟨⟨hO7.frozen _, hO7.frozen _, hO7.frozen _, hO7.frozen _, hO7.frozen _⟩, ?_⟩
 have hO8 : Own K0 37 5 RVal (fun y => T y ∨ (wr.heap.size ≤ y ∧ y < w7.heap.size)) w7 (.slice (some ⟨gr, 0, none⟩) M.length c12) M := hO7.mono RVal.fair (fun g h _ => .inl h) (fun k e h => by
  rcases h with h | h
  ·exact hnt k e h
  ·have : gr = k := Option.some.inj e
   omega)
 exact (hO8.store RVal.fair hi hc (RVal.fair.mono hr (fun y hy hl => hy.elim .inl (fun h => .inr ⟨by have : Wd.heap.size ≤ y := h; omega, hl⟩)))).1
def NB (K0 Kc : Nat) (v : Value) : Prop := ∀ k, v.ownBlock = some k → k < K0 ∨ Kc ≤ k
theorem nb_grow {K0 Kc : Nat} {v v' : Value} {W : World} (h : NB K0 Kc v) (hv : v'.ownBlock = v.ownBlock ∨ v'.ownBlock = some W.heap.size) (hk : Kc ≤ W.heap.size) : NB K0 Kc v' := fun k e => by
 rcases hv with hv | hv
 ·exact h k (hv ▸ e)
 ·rw [hv] at e
  have := Option.some.inj e
  exact .inr (this ▸ hk)
theorem nb_len {K0 Kc n m c : Nat} {a : Option Addr} (h : NB K0 Kc (.slice a n c)) : NB K0 Kc (.slice a m c) := by cases a <;> exact h
structure RowZ (lo g K0 Kc : Nat) (T : Nat → Prop) (W : World) (v : Value) (L : List ValueD) : Prop where
 own : Own K0 37 5 RVal T W v L
 tlt : ∀ y, T y → y < Kc
 tb : ∀ y, T y → y < lo ∨ K0 ≤ y
 ob : ∀ k, v.ownBlock = some k → k < Kc
 lg : lo ≤ g
 gk : g < K0
 kc : Kc ≤ W.heap.size
section
variable {lo g K0 Kc : Nat} {T : Nat → Prop} {W W' : World} {v : Value} {L : List ValueD}
theorem RowZ.below (h : RowZ lo g K0 Kc T W v L) (hb : Below W.heap.size W W') : RowZ lo g K0 Kc T W' v L := ⟨h.own.below RVal.fair hb, h.tlt, h.tb, h.ob, h.lg, h.gk, Nat.le_trans h.kc hb.size⟩
theorem RowZ.alloc (h : RowZ lo g K0 Kc T W v L) (o : Obj) : RowZ lo g K0 Kc T (W.alloc o) v L := h.below ((Below.here W).alloc (Nat.le_refl _) o)
theorem RowZ.drew (h : RowZ lo g K0 Kc T W v L) : RowZ lo g K0 Kc T W.drew v L := h.below (below_drew (Below.here W))
theorem RowZ.far (h : RowZ lo g K0 Kc T W v L) {p : Addr} (hp : p.block = g) (u : Value) : RowZ lo g K0 Kc T (W.setCell p u) v L :=
 ⟨h.own.setCell RVal.fair u (fun e => by have := (h.own.lt e).1; have := h.gk; omega) (fun ht => by have := h.tb _ ht; have := h.gk; have := h.lg; omega), h.tlt, h.tb, h.ob, h.lg, h.gk, by simpa [World.setCell] using h.kc⟩
theorem RowZ.grownI (h : RowZ lo g K0 Kc T W v L) {row : Option Nat} (hg : W.grownBy W' row) (hr : ∀ k, row = some k → ¬ T k ∧ v.ownBlock ≠ some k) : RowZ lo g K0 Kc T W' v L :=
 ⟨h.own.kept RVal.fair hg (by
  cases e : v.ownBlock with
  | none => exact .inl rfl
  | some x => exact .inr (fun e2 => (hr x e2.symm).2 e)) (fun k e => (hr k e).1), h.tlt, h.tb, h.ob, h.lg, h.gk, Nat.le_trans h.kc hg.size⟩
theorem RowZ.sep (h : RowZ lo g K0 Kc T W v L) {x : Value} (hN : NB K0 Kc x) (hb : ∀ k, x.ownBlock = some k → lo ≤ k) : ∀ k, x.ownBlock = some k → ¬ T k ∧ v.ownBlock ≠ some k := fun k e => by
 have h1 := hb k e
 constructor
 ·intro ht
  have := h.tlt k ht
  rcases h.tb k ht with h2 | h2
  ·omega
  ·rcases hN k e with h3 | h3 <;> omega
 ·intro e2
  have h2 := (h.own.lt e2).1
  have h4 := h.ob k e2
  rcases hN k e with h3 | h3 <;> omega
end
def SeenAt (S : Nat → Prop) (vb : Value) (b : BookD) (d : Nat) : Prop := ∀ (S' : Nat → Prop) (name : ByteArray) (cs : List Value) (v : ValueD) (w : World), depthV v ≤ d → RSl 5 96 RType S w [vb] b → RVal S' w cs v → noneB b name = false → EvenN d v → countV v ≤ 400 →
  Calls Tryz.prog 34 #[.agg #[vb], .string name, .agg cs.toArray] w (ValUn S' w (projV b d (typeOf b name) v))
theorem seen_succ (S : Nat → Prop) (vb : Value) (b : BookD) (hg : goodF b = 0) (d : Nat) (IH0 : SeenAt S vb b d) : SeenAt S vb b (d + 1) := by
 rintro S' name cs ⟨kind, nn, s, ids, l⟩ w hd hb0 hr hno hev hcn
 obtain ⟨A, cap, rfl, -, -⟩ := hb0.form
 obtain ⟨I1, d1, I2, d2, rfl, hri, hrl⟩ := hr.parts
 obtain ⟨ty, htf, hty, htm, -, hte⟩ := noneB_type hno
 have hm := good_msg hg htm hte
 have h5 : ty.fields.length ≤ 5 := hm.1
 have hll : ids.length = l.length := hev.1
 have hlen400 : l.length ≤ 400 := by
  have h1 := hcn
  rw [countV] at h1
  have := countL_len l
  omega
 have HB := Lib.hid hb0
 have HBo := Lib.hid ((RSl.fair RType.fair).old hb0)
 have HI := Lib.hid hri
 have HV := Lib.hid (RVal.fair.mono hr (T := fun y => S' y ∧ y < w.heap.size) (fun y hy hl => ⟨hy, hl⟩))
 have HL := Lib.hid hrl
 have HM := Lib.hid hm
 have HG := Lib.hid hg
 have Hll := Lib.hid hll
 have Hev := Lib.hid hev.2
 have Hno := Lib.hid hno
 have IH := Lib.hid IH0
 have Hd := Lib.hid (fun x (h : x ∈ l) => (show depthV x ≤ d from by have := depthL_mem' h; rw [depthV] at hd; omega))
 have Hc := Lib.hid (fun x (h : x ∈ l) => (show countV x ≤ 400 from by have := countL_mem' h; rw [countV] at hcn; omega))
 have hlen : ∀ n, n ≤ ty.fields.length → (projTo b d ty ids l n).length ≤ 2005 := fun n hn => by
  have := projTo_len (b := b) (d := d) (t := ty) hll n hn
  have : n * (1 + ids.length) ≤ 5 * 401 := Nat.mul_le_mul (by omega) (by omega)
  omega
 have HLen := Lib.hid hlen
 have Hpv : Hid (projV b (d + 1) (typeOf b name) (.mk kind nn s ids l) = msgV ((projTo b d ty ids l ty.fields.length).map (·.1)) ((projTo b d ty ids l ty.fields.length).map (·.2))) := by
  show _ = _
  rw [hty, projV]
  unfold projTo
  rw [List.take_length]
  rfl
 have Hty := Lib.hid hty
 have HTf : Hid ((findT b name).getD .zero = ty) := by show _ = _; rw [htf]; rfl
 obtain ⟨r, hrr⟩ : ∃ r, r = projV b (d + 1) (typeOf b name) (.mk kind nn s ids l) := ⟨_, rfl⟩
 rw [← hrr] at Hpv ⊢
 obtain ⟨x1, x2, x3, x4⟩ := boxes3 w [.slice A b.length cap] [.int .i64 kind, .int .i64 nn, .string s, .slice I1 ids.length d1, .slice I2 l.length d2] [.int .i64 0, .int .i64 0, .string ⟨#[]⟩, .slice none 0 0, .slice none 0 0] 24 37 37
 clear hb0 hr hri hrl hno hev hcn htf hty htm hte hm hll hg hd hlen hrr IH0
 have z1 := x1.cell 0
 have l1 := x1.lt
 go_enter Tryz.func34, Tryz.ntmps34
 go_wp2_with fail
 refine (typeOf_any (Old w) _ b name _ ((RSl.fair RType.fair).below HBo.out x4)).mono ?_
 rintro e w1 ⟨cs3, rfl, hr3, hb1⟩
 rw [HTf.out] at hr3
 replace hr3 := RType.fair.below hr3 hb1
 obtain ⟨A1, k1, A2, k2, A3, k3, rfl, hf, -, -⟩ := hr3.parts
 have hw1 := below_via x4 hb1 x4.size
 have y1 := x1.below hb1 x1.lt
 have y2 := x2.below hb1 x2.lt
 have y3 := x3.below hb1 x3.lt
 have hsz : w.heap.size + 1 + 1 < w1.heap.size := y3.lt
 have HF := Lib.hid hf
 have Hw1 := Lib.hid hw1
 clear hr3 hf x1 x2 x3 x4 z1 l1 hb1
 go_wp2_with fail
 go_loopw [26] (fun i wr => ∃ (n : Nat) (vi vl : Value), i = .int .i64 n ∧ n ≤ ty.fields.length ∧ Rows2 (fun y => w1.heap.size + 1 + 1 ≤ y ∨ (S' y ∧ y < w.heap.size)) (w1.heap.size + 1 + 1) wr (w1.heap.size + 1) vi vl ((projTo b d ty ids l n).map (·.1)) ((projTo b d ty ids l n).map (·.2)) ∧
   Box wr (w1.heap.size + 1) 37 [.int .i64 2, .int .i64 0, .string ⟨#[]⟩, vi, vl] ∧ (Box wr (w.heap.size + 1 + 1) 37 [.int .i64 0, .int .i64 0, .string ⟨#[]⟩, .slice none 0 0, .slice none 0 0] ∧ Box wr (w.heap.size + 1) 37 [.int .i64 kind, .int .i64 nn, .string s, .slice I1 ids.length d1, .slice I2 l.length d2] ∧ Box wr w.heap.size 24 [.slice A b.length cap]) ∧ Below w.heap.size w wr) (fun i _ => ty.fields.length - (intOf i).toNat)
 case atStart =>
  have x5 := hw1.alloc hw1.size (.cells #[.string ty.name, .bool ty.enum, .slice A1 ty.fields.length k1, .slice A2 ty.gone.length k2, .slice A3 ty.items.length k3] 46)
  have x6 : Box ((w1.alloc (.cells [.string ty.name, .bool ty.enum, .slice A1 ty.fields.length k1, .slice A2 ty.gone.length k2, .slice A3 ty.items.length k3].toArray 46)).alloc (.cells #[.int .i64 2, .int .i64 0, .string ⟨#[]⟩, .slice none 0 0, .slice none 0 0] 37)) (w1.heap.size + 1) 37 [.int .i64 2, .int .i64 0, .string ⟨#[]⟩, .slice none 0 0, .slice none 0 0] := by
   have := Box.newB x5 37 [.int .i64 2, .int .i64 0, .string ⟨#[]⟩, .slice none 0 0, .slice none 0 0]
   simpa using this
  exact ⟨0, .slice none 0 0, .slice none 0 0, rfl, Nat.zero_le _, by simpa [projTo] using Rows2.new _ _ _ _ (Nat.lt_succ_self _) (by simp), x6, ⟨(y3.alloc _).alloc _, (y2.alloc _).alloc _, (y1.alloc _).alloc _⟩, x5.alloc x5.size _⟩
 case round =>
  obtain ⟨n, vi, vl, rfl, hn, hro, zG, ⟨zR, zV, zB⟩, hb⟩ := hrel
  clear y1 y2 y3 hw1
  by_cases hlt : n < ty.fields.length
  ·--[RND
   obtain ⟨g, o, rfl, hS0, hgw⟩ := HF.out.base (by omega)
   have hc := (HF.out.flat (enc := fieldCells) hlt).keep (keep_two Hw1.out hb (by have := hro.hb; go_light; omega)) hS0
   have hfp : fieldP b ty.fields[n] := msg_field HM.out (List.getElem_mem hlt)
   have hfo : fieldOf ty ty.fields[n].id = some ty.fields[n] := fieldOf_mem HM.out (List.getElem_mem hlt)
   have hqm := List.getElem_mem hlt
   have hsucc := projTo_succ (b := b) (d := d) (t := ty) (ids := ids) (l := l) hlt
   have hl1 := HLen.out n (by omega)
   have hl2 := HLen.out (n + 1) (by omega)
   obtain ⟨f0, hxe⟩ : ∃ x, x = ty.fields[n] := ⟨_, rfl⟩
   rw [← hxe] at hc hfp hsucc hfo hqm
   obtain ⟨fid, fname, ftype, fkind, frule⟩ := f0
   dsimp only at hfo
   have q0 : wr.cell? ⟨g, o + n * 5, none⟩ = some (.int .i64 fid) := hc.at_ 0 rfl
   have q1 : wr.cell? ⟨g, o + n * 5 + 1, none⟩ = some (.string fname) := hc.at_ 1 rfl
   have q2 : wr.cell? ⟨g, o + n * 5 + 2, none⟩ = some (.string ftype) := hc.at_ 2 rfl
   have q3 : wr.cell? ⟨g, o + n * 5 + 3, none⟩ = some (.int .i64 fkind) := hc.at_ 3 rfl
   have q4 : wr.cell? ⟨g, o + n * 5 + 4, none⟩ = some (.int .i64 frule) := hc.at_ 4 rfl
   have hgl : g < wr.heap.size := Nat.lt_of_lt_of_le hgw (by have := hro.hb; go_light; omega)
   obtain ⟨P0, hP0⟩ : ∃ P, P = projTo b d ty ids l n := ⟨_, rfl⟩
   rw [← hP0] at hro hl1 hsucc
   rw [projField_those Hll.out] at hsucc
   dsimp only at hsucc
   have Hsucc := Lib.hid hsucc
   have Hl2 := Lib.hid hl2
   have Hfp := Lib.hid hfp
   have Hfo := Lib.hid hfo
   have Hqm := Lib.hid hqm
   clear hc hxe hfp hfo hsucc hP0 hl2 hqm
   have hw := hb.alloc hb.size (.cells #[.int .i64 fid, .string fname, .string ftype, .int .i64 fkind, .int .i64 frule] 55)
   have hR := hro.alloc (.cells #[.int .i64 fid, .string fname, .string ftype, .int .i64 fkind, .int .i64 frule] 55)
   have zX : Box (wr.alloc (.cells #[.int .i64 fid, .string fname, .string ftype, .int .i64 fkind, .int .i64 frule] 55)) wr.heap.size 55 [.int .i64 fid, .string fname, .string ftype, .int .i64 fkind, .int .i64 frule] := Box.new wr _ _
   replace zG := zG.alloc (.cells #[.int .i64 fid, .string fname, .string ftype, .int .i64 fkind, .int .i64 frule] 55)
   replace zR := zR.alloc (.cells #[.int .i64 fid, .string fname, .string ftype, .int .i64 fkind, .int .i64 frule] 55)
   replace zV := zV.alloc (.cells #[.int .i64 fid, .string fname, .string ftype, .int .i64 fkind, .int .i64 frule] 55)
   replace zB := zB.alloc (.cells #[.int .i64 fid, .string fname, .string ftype, .int .i64 fkind, .int .i64 frule] 55)
   have hXG : (w1.heap.size + 1) < wr.heap.size := by have := hro.hb; go_light; omega
   have hXB : (w1.heap.size + 1 + 1) ≤ wr.heap.size := hro.hb
   clear hro hb
   go_upto_region 6 with fail
   clear q0 q1 q2 q3 q4
   generalize hWW : wr.alloc (.cells #[.int .i64 fid, .string fname, .string ftype, .int .i64 fkind, .int .i64 frule] 55) = W0 at *
   have hXl : wr.heap.size < W0.heap.size := zX.lt
   generalize hXX : wr.heap.size = X at *
   clear hWW hXX
   have hth := those2_any (fun y => S' y ∧ y < w.heap.size) [.int .i64 kind, .int .i64 nn, .string s, .slice I1 ids.length d1, .slice I2 l.length d2] (.mk kind nn s ids l) fid W0 (RVal.fair.mono (RVal.fair.below HV.out hw) (T := fun y => S' y ∧ y < w.heap.size) (fun y hy _ => hy)) (by have := Hll.out; dsimp only [ValueD.ids, ValueD.l]; omega)
   dsimp only [ValueD.ids, ValueD.l] at hth
   obtain ⟨L0, hL0⟩ : ∃ L, L = thoseZ (ids.zip l) fid := ⟨_, rfl⟩
   have hl0 : L0.length ≤ 400 := by
    rw [hL0]
    have := thoseZ_len (ids.zip l) fid
    rw [List.length_zip] at this
    omega
   have Hmem := Lib.hid (show ∀ x ∈ L0, x ∈ l by
    intro x hx
    rw [hL0] at hx
    unfold thoseZ at hx
    obtain ⟨p, hp, rfl⟩ := List.mem_map.1 hx
    exact (List.of_mem_zip (List.mem_filter.1 hp).1).2)
   rw [← hL0] at hth Hsucc
   obtain ⟨Lz, hLz⟩ : ∃ L, L = seenL b d ⟨fid, fname, ftype, fkind, frule⟩ L0 := ⟨_, rfl⟩
   have hlz : Lz.length ≤ 401 := by
    rw [hLz]
    have := seenL_len b d ⟨fid, fname, ftype, fkind, frule⟩ L0
    omega
   rw [← hLz] at Hsucc
   have HLz := Lib.hid hLz
   have Hth := Lib.hid hth
   obtain ⟨u0, u1, u2, u3, u4⟩ := zV.five
   have hlv := zV.lt
   have f0 : W0.cell? ⟨X, 0, none⟩ = some (.int .i64 fid) := zX.cell 0
   have lX := zX.lt
   clear hth hL0 hLz
   go_wp2_with fail
   refine Hth.out.mono ?_
   rintro e w5 ⟨v12, rfl, hO, hnil, hk5, hb5⟩
   obtain ⟨A12, c12, rfl, -⟩ := hO.form
   have Hnil := Lib.hid hnil
   have hvi : Hid (∀ k, vi.ownBlock = some k → k < W0.heap.size) := fun k hk => (hR.ilt hk).2
   have hvl : Hid (∀ k, vl.ownBlock = some k → k < W0.heap.size) := fun k hk => (hR.llt hk).2
   have hT5 : Hid (∀ y, (fun y => (S' y ∧ y < w.heap.size) ∧ y < W0.heap.size) y → ((S' y ∧ y < w.heap.size) ∨ (W0.heap.size + 1) ≤ y) ∧ y < (w5).heap.size) := fun y hy => ⟨.inl hy.1, Nat.lt_of_lt_of_le hy.2 hb5.size⟩
   have hst5 : Rows2 (fun y => ((fun y => w1.heap.size + 1 + 1 ≤ y ∨ (S' y ∧ y < w.heap.size))) y ∧ y < W0.heap.size) (w1.heap.size + 1 + 1) w5 (w1.heap.size + 1) vi vl (P0.map (·.1)) (P0.map (·.2)) ∧ Box w5 (w1.heap.size + 1) 37 [.int .i64 2, .int .i64 0, .string ⟨#[]⟩, vi, vl] ∧ (Box w5 (w.heap.size + 1 + 1) 37 [.int .i64 0, .int .i64 0, .string ⟨#[]⟩, .slice none 0 0, .slice none 0 0] ∧ Box w5 (w.heap.size + 1) 37 [.int .i64 kind, .int .i64 nn, .string s, .slice I1 ids.length d1, .slice I2 l.length d2] ∧ Box w5 w.heap.size 24 [.slice A b.length cap]) ∧ Box w5 X 55 [.int .i64 fid, .string fname, .string ftype, .int .i64 fkind, .int .i64 frule] ∧ Below w.heap.size w w5 ∧ (W0.heap.size + 1) ≤ (w5).heap.size := ⟨hR.low.below hb5, zG.below hb5 zG.lt, ⟨zR.below hb5 zR.lt, zV.below hb5 zV.lt, zB.below hb5 zB.lt⟩, zX.below hb5 zX.lt, below_via hw hb5 hw.size, hk5⟩
   have Hst5 := Lib.hid hst5
   have f4 : w5.cell? ⟨X, 4, none⟩ = some (.int .i64 frule) := (zX.below hb5 zX.lt).cell 4
   have lX5 := (zX.below hb5 zX.lt).lt
   obtain ⟨nq, hnq⟩ : ∃ b, b = decide (L0.length = 0 ∧ frule = 1) := ⟨_, rfl⟩
   have Hnq := Lib.hid hnq
   clear u0 u1 u2 u3 u4 hlv f0 lX Hth hR zG zR zV zB zX hw hnil hst5 hb5 hnq
   go_upto_region 7 with fail
   go_cut [41] from 34 to 40 (fun c W1 => c = .bool nq ∧ Own (W0.heap.size + 1) 37 5 RVal (fun y => (S' y ∧ y < w.heap.size) ∧ y < W0.heap.size) W1 (.slice A12 L0.length c12) L0 ∧ (Hid (∀ y, (fun y => (S' y ∧ y < w.heap.size) ∧ y < W0.heap.size) y → ((S' y ∧ y < w.heap.size) ∨ (W0.heap.size + 1) ≤ y) ∧ y < (W1).heap.size)) ∧ (Rows2 (fun y => ((fun y => w1.heap.size + 1 + 1 ≤ y ∨ (S' y ∧ y < w.heap.size))) y ∧ y < W0.heap.size) (w1.heap.size + 1 + 1) W1 (w1.heap.size + 1) vi vl (P0.map (·.1)) (P0.map (·.2)) ∧ Box W1 (w1.heap.size + 1) 37 [.int .i64 2, .int .i64 0, .string ⟨#[]⟩, vi, vl] ∧ (Box W1 (w.heap.size + 1 + 1) 37 [.int .i64 0, .int .i64 0, .string ⟨#[]⟩, .slice none 0 0, .slice none 0 0] ∧ Box W1 (w.heap.size + 1) 37 [.int .i64 kind, .int .i64 nn, .string s, .slice I1 ids.length d1, .slice I2 l.length d2] ∧ Box W1 w.heap.size 24 [.slice A b.length cap]) ∧ Box W1 X 55 [.int .i64 fid, .string fname, .string ftype, .int .i64 fkind, .int .i64 frule] ∧ Below w.heap.size w W1 ∧ (W0.heap.size + 1) ≤ (W1).heap.size))
   case first =>
    by_cases h0 : L0.length = 0
    ·have b0 : ((L0.length : Int) == 0) = true := by rw [h0]; rfl
     generalize hln : L0.length = n0 at *
     by_cases h1 : frule = 1
     ·subst h1
      have e1 : nq = true := by rw [Hnq.out]; simp [h0]
      have b1 : n0 = 0 := h0
      subst b1
      go_wp2_with fail
      go_meet
      case rel => exact ⟨by rw [e1], hO, hT5, Hst5.out⟩
     ·have e1 : nq = false := by rw [Hnq.out]; simp [h1]
      have b2 : (frule == 1) = false := by simpa using h1
      have b1 : n0 = 0 := h0
      subst b1
      clear h1
      go_wp2_with fail
      go_meet
      case rel => exact ⟨by rw [e1], hO, hT5, Hst5.out⟩
    ·have e1 : nq = false := by rw [Hnq.out]; simp [h0]
     have b0 : ((L0.length : Int) == 0) = false := by
      rw [beq_eq_false_iff_ne]; omega
     go_wp2_with fail
     go_meet
     case rel => exact ⟨by rw [e1], hO, hT5, Hst5.out⟩
   case rest =>
   clear f4 lX5 hO hT5 Hst5
   obtain ⟨rfl, hO, hT5, hst⟩ := hcut
   obtain ⟨W1, hW1⟩ : ∃ V, V = wc := ⟨_, rfl⟩
   subst hW1
   go_upto_if 41 with fail
   go_cut [12, 13] from 42 to 67 (fun c _ W2 => ∃ T : Nat → Prop, Own (W0.heap.size + 1) 37 5 RVal T W2 c Lz ∧ (Hid (∀ y, T y → ((S' y ∧ y < w.heap.size) ∨ (W0.heap.size + 1) ≤ y) ∧ y < (W2).heap.size)) ∧ (Rows2 (fun y => ((fun y => w1.heap.size + 1 + 1 ≤ y ∨ (S' y ∧ y < w.heap.size))) y ∧ y < W0.heap.size) (w1.heap.size + 1 + 1) W2 (w1.heap.size + 1) vi vl (P0.map (·.1)) (P0.map (·.2)) ∧ Box W2 (w1.heap.size + 1) 37 [.int .i64 2, .int .i64 0, .string ⟨#[]⟩, vi, vl] ∧ (Box W2 (w.heap.size + 1 + 1) 37 [.int .i64 0, .int .i64 0, .string ⟨#[]⟩, .slice none 0 0, .slice none 0 0] ∧ Box W2 (w.heap.size + 1) 37 [.int .i64 kind, .int .i64 nn, .string s, .slice I1 ids.length d1, .slice I2 l.length d2] ∧ Box W2 w.heap.size 24 [.slice A b.length cap]) ∧ Box W2 X 55 [.int .i64 fid, .string fname, .string ftype, .int .i64 fkind, .int .i64 frule] ∧ Below w.heap.size w W2 ∧ (W0.heap.size + 1) ≤ (W2).heap.size))
   case first =>
    obtain ⟨hR, zG, ⟨zR, zV, zB⟩, zX, hw, hk0⟩ := hst
    cases nq with
    | true =>
     have hq := of_decide_eq_true Hnq.out.symm
     have hLe : Hid (Lz = [leastOfF b 4 ⟨fid, fname, ftype, fkind, frule⟩]) := by show _ = _; rw [HLz.out]; unfold seenL; rw [if_pos hq]
     have hv12 : Value.slice A12 L0.length c12 = .slice none 0 0 := Hnil.out (List.eq_nil_of_length_eq_zero hq.1)
     have hcall := leastBy_any _ b HG.out 4 S ⟨fid, fname, ftype, fkind, frule⟩ W1 ((RSl.fair RType.fair).below HB.out hw) Hfp.out.2.2.2.1 Hfp.out.2.2.2.2.1 Hfp.out.2.2.2.2.2.2.2 (deep_of_ends (good_ends HG.out HM.out Hqm.out))
     obtain ⟨⟨pk, pn, ps, pi, pl⟩, hpe⟩ : ∃ p, p = leastOfF b 4 ⟨fid, fname, ftype, fkind, frule⟩ := ⟨_, rfl⟩
     rw [← hpe] at hcall hLe
     have Hcall := Lib.hid hcall
     have s0 : W1.cell? ⟨w.heap.size, 0, none⟩ = some (.slice A b.length cap) := zB.cell 0
     have sl0 := zB.lt
     obtain ⟨c0, c1, c2, c3, c4⟩ := zX.five
     have cl := zX.lt
     have HOn := Lib.hid (fun (T : Nat → Prop) (W : World) => (show Own (W0.heap.size + 1) 37 5 RVal T W (.slice A12 L0.length c12) [] from hv12 ▸ Own.nil_ _ _ 5 RVal _ _))
     have Hv12 : Hid (∀ k, (Value.slice A12 L0.length c12).ownBlock ≠ some k) := fun k h => by rw [hv12] at h; simp [Value.ownBlock] at h
     clear hcall hpe hq hO hT5 hv12
     go_wp2_with fail
     refine Hcall.out.mono ?_
     rintro e w6 ⟨cs6, rfl, hr6, hb6⟩
     obtain ⟨E1, f1, E2, f2, rfl, -, -⟩ := hr6.parts
     have hr7 : RVal (fun y => W1.heap.size ≤ y ∧ y < w6.heap.size) (w6.alloc (.cells [.int .i64 pk, .int .i64 pn, .string ps, .slice E1 pi.length f1, .slice E2 pl.length f2].toArray 37)) [.int .i64 pk, .int .i64 pn, .string ps, .slice E1 pi.length f1, .slice E2 pl.length f2] (.mk pk pn ps pi pl) := RVal.fair.keep (RVal.fair.mono hr6 (fun y hy hl => ⟨hy, hl⟩)) (Keep.alloc _ _ _)
     clear s0 sl0 c0 c1 c2 c3 c4 cl hr6 Hcall
     go_wp2_with (at_builtin; go_must (refine wl_append _ rfl (.tmp 42) (.tmp 46) rfl sl_vals RVal.fair rfl rfl (HOn.out (fun y => W1.heap.size ≤ y ∧ y < w6.heap.size) _) (Src.one (es := [.int .i64 pk, .int .i64 pn, .string ps, .slice E1 pi.length f1, .slice E2 pl.length f2]) (y := ValueD.mk pk pn ps pi pl) rfl (Ones.of_all rfl) hr7 (Lies.newAt (by first | rfl | simp [World.setCell]))) (fun g h => by have := h.2; simp; omega) ?_ ?_ ?_))
     ·simp
     ·have := hb6.size; simp; omega
     intro v7 w7 hO7 hg7 _
     have hbel : Below (w6.alloc (.cells [.int .i64 pk, .int .i64 pn, .string ps, .slice E1 pi.length f1, .slice E2 pl.length f2].toArray 37)).heap.size (w6.alloc (.cells [.int .i64 pk, .int .i64 pn, .string ps, .slice E1 pi.length f1, .slice E2 pl.length f2].toArray 37)) w7 := below_grown (Below.refl _ _) hg7 (Nat.le_refl _) (fun g' h => absurd h (Hv12.out g'))
     have hall := below_via (hb6.alloc hb6.size (.cells [.int .i64 pk, .int .i64 pn, .string ps, .slice E1 pi.length f1, .slice E2 pl.length f2].toArray 37)) hbel (hb6.alloc hb6.size _).size
     have hO8 := Lib.hid hO7
     have hT8 : Hid (∀ y, (fun y => W1.heap.size ≤ y ∧ y < w6.heap.size) y → ((S' y ∧ y < w.heap.size) ∨ (W0.heap.size + 1) ≤ y) ∧ y < (w7).heap.size) := fun y hy => ⟨.inr (Nat.le_trans hk0 hy.1), by have := hbel.size; simp at this; have := hy.2; omega⟩
     have hst8 : Rows2 (fun y => ((fun y => w1.heap.size + 1 + 1 ≤ y ∨ (S' y ∧ y < w.heap.size))) y ∧ y < W0.heap.size) (w1.heap.size + 1 + 1) w7 (w1.heap.size + 1) vi vl (P0.map (·.1)) (P0.map (·.2)) ∧ Box w7 (w1.heap.size + 1) 37 [.int .i64 2, .int .i64 0, .string ⟨#[]⟩, vi, vl] ∧ (Box w7 (w.heap.size + 1 + 1) 37 [.int .i64 0, .int .i64 0, .string ⟨#[]⟩, .slice none 0 0, .slice none 0 0] ∧ Box w7 (w.heap.size + 1) 37 [.int .i64 kind, .int .i64 nn, .string s, .slice I1 ids.length d1, .slice I2 l.length d2] ∧ Box w7 w.heap.size 24 [.slice A b.length cap]) ∧ Box w7 X 55 [.int .i64 fid, .string fname, .string ftype, .int .i64 fkind, .int .i64 frule] ∧ Below w.heap.size w w7 ∧ (W0.heap.size + 1) ≤ (w7).heap.size := ⟨hR.below hall, zG.below hall zG.lt, ⟨zR.below hall zR.lt, zV.below hall zV.lt, zB.below hall zB.lt⟩, zX.below hall zX.lt, below_via hw hall hw.size, Nat.le_trans hk0 hall.size⟩
     have Hst8 := Lib.hid hst8
     clear hR zG zR zV zB zX hw hbel hall hg7 hO7 hr7 hb6 hst8
     go_wp2_with fail
     go_meet
     case rel => exact ⟨_, by rw [hLe.out]; exact hO8.out, hT8, Hst8.out⟩
    | false =>
     by_cases hk5 : fkind = 5
     ·--[FIVE
      have hkb : (fkind == 5) = true := by simpa using hk5
      have hLe : Hid (Lz = L0.map (projV b d (typeOf b ftype))) := by
       show _ = _
       rw [HLz.out]
       unfold seenL
       rw [if_neg (of_decide_eq_false Hnq.out.symm), if_pos hk5]
      have hnone : noneB b ftype = false := by
       obtain ⟨t2, e1, e2, _, _, e5, _⟩ := field_msg HG.out Hfp.out hk5
       unfold noneB
       rw [e1]
       simpa using e5
      obtain ⟨F, hF⟩ : ∃ F, F = projV b d (typeOf b ftype) := ⟨_, rfl⟩
      have HF5 := Lib.hid hF
      rw [← hF] at hLe
      have c3 : W1.cell? ⟨X, 3, none⟩ = some (.int .i64 fkind) := zX.cell 3
      have cl := zX.lt
      have Hst := Lib.hid (show Rows2 (fun y => ((fun y => w1.heap.size + 1 + 1 ≤ y ∨ (S' y ∧ y < w.heap.size))) y ∧ y < W0.heap.size) (w1.heap.size + 1 + 1) W1 (w1.heap.size + 1) vi vl (P0.map (·.1)) (P0.map (·.2)) ∧ Box W1 (w1.heap.size + 1) 37 [.int .i64 2, .int .i64 0, .string ⟨#[]⟩, vi, vl] ∧ (Box W1 (w.heap.size + 1 + 1) 37 [.int .i64 0, .int .i64 0, .string ⟨#[]⟩, .slice none 0 0, .slice none 0 0] ∧ Box W1 (w.heap.size + 1) 37 [.int .i64 kind, .int .i64 nn, .string s, .slice I1 ids.length d1, .slice I2 l.length d2] ∧ Box W1 w.heap.size 24 [.slice A b.length cap]) ∧ Box W1 X 55 [.int .i64 fid, .string fname, .string ftype, .int .i64 fkind, .int .i64 frule] ∧ Below w.heap.size w W1 ∧ (W0.heap.size + 1) ≤ (W1).heap.size from ⟨hR, zG, ⟨zR, zV, zB⟩, zX, hw, hk0⟩)
      have HX := Lib.hid (show (w1.heap.size + 1) < X ∧ X < W0.heap.size ∧ w.heap.size + 1 + 1 < w1.heap.size from ⟨hXG, hXl, hsz⟩)
      clear hR zG zR zV zB zX hw hk0 hF hk5
      go_wp2_with fail
      clear c3 cl hkb
      go_loopw [53] (fun c53 wi => ∃ (i : Nat) (T : Nat → Prop), c53 = .int .i64 i ∧ i ≤ L0.length ∧ Own (W0.heap.size + 1) 37 5 RVal T wi (.slice A12 L0.length c12) (mixL F L0 i) ∧ (Hid (∀ y, T y → ((S' y ∧ y < w.heap.size) ∨ (W0.heap.size + 1) ≤ y) ∧ y < (wi).heap.size)) ∧ (Rows2 (fun y => ((fun y => w1.heap.size + 1 + 1 ≤ y ∨ (S' y ∧ y < w.heap.size))) y ∧ y < W0.heap.size) (w1.heap.size + 1 + 1) wi (w1.heap.size + 1) vi vl (P0.map (·.1)) (P0.map (·.2)) ∧ Box wi (w1.heap.size + 1) 37 [.int .i64 2, .int .i64 0, .string ⟨#[]⟩, vi, vl] ∧ (Box wi (w.heap.size + 1 + 1) 37 [.int .i64 0, .int .i64 0, .string ⟨#[]⟩, .slice none 0 0, .slice none 0 0] ∧ Box wi (w.heap.size + 1) 37 [.int .i64 kind, .int .i64 nn, .string s, .slice I1 ids.length d1, .slice I2 l.length d2] ∧ Box wi w.heap.size 24 [.slice A b.length cap]) ∧ Box wi X 55 [.int .i64 fid, .string fname, .string ftype, .int .i64 fkind, .int .i64 frule] ∧ Below w.heap.size w wi ∧ (W0.heap.size + 1) ≤ (wi).heap.size)) (fun c53 _ => L0.length - (intOf c53).toNat)
      case atStart => exact ⟨0, _, rfl, Nat.zero_le _, by unfold mixL; simpa using hO, hT5, Hst.out⟩
      case round =>
       clear hO hT5 Hst
       obtain ⟨i, T, rfl, hi, hO, hT, hR, zG, ⟨zR, zV, zB⟩, zX, hw, hk0⟩ := hrel
       by_cases hil : i < L0.length
       ·--[IRND
        have hil' : (i : Int) < (L0.length : Int) := by omega
        obtain ⟨gr, rfl, hgr, hgl⟩ := hO.there_ (by rw [mixL_len]; omega)
        obtain ⟨cs, hcl, hrx, hlies⟩ := hO.cells (i := i) (by rw [mixL_len]; exact hil)
        rw [mixL_at F hil] at hrx
        have hset := mixL_set F hil
        have hxm := Hmem.out _ (List.getElem_mem hil)
        obtain ⟨x, hx⟩ : ∃ x, x = L0[i] := ⟨_, rfl⟩
        rw [← hx] at hrx hset hxm
        have hdx := Hd.out x hxm
        have hcx := Hc.out x hxm
        have hex := Hev.out x hxm
        obtain ⟨xk, xn, xs, xi, xl⟩ := x
        obtain ⟨D1, e1, D2, e2, rfl, -, -⟩ := hrx.parts
        have t0 : wr.cell? ⟨gr, i * 5, none⟩ = some (.int .i64 xk) := by have := hlies.at_ 0 rfl; simpa using this
        have t1 : wr.cell? ⟨gr, i * 5 + 1, none⟩ = some (.int .i64 xn) := hlies.at_ 1 rfl
        have t2 : wr.cell? ⟨gr, i * 5 + 2, none⟩ = some (.string xs) := hlies.at_ 2 rfl
        have t3 : wr.cell? ⟨gr, i * 5 + 3, none⟩ = some (.slice D1 xi.length e1) := hlies.at_ 3 rfl
        have t4 : wr.cell? ⟨gr, i * 5 + 4, none⟩ = some (.slice D2 xl.length e2) := hlies.at_ 4 rfl
        obtain ⟨pv, hpv⟩ : ∃ p, p = F (.mk xk xn xs xi xl) := ⟨_, rfl⟩
        rw [← hpv] at hset
        have Hset := Lib.hid hset
        have HIH : Hid (∀ W, Below wr.heap.size wr W → Calls Tryz.prog 34 #[.agg #[.slice A b.length cap], .string ftype, .agg [.int .i64 xk, .int .i64 xn, .string xs, .slice D1 xi.length e1, .slice D2 xl.length e2].toArray] W (ValUn T W pv)) := fun W h => by
         have := IH.out T ftype [.int .i64 xk, .int .i64 xn, .string xs, .slice D1 xi.length e1, .slice D2 xl.length e2] (.mk xk xn xs xi xl) W hdx ((RSl.fair RType.fair).below HB.out (below_via hw h hw.size)) (RVal.fair.below hrx h) hnone hex hcx
         rw [← HF5.out, ← hpv] at this
         exact this
        have HS := Lib.hid (fun W (h : Below wr.heap.size wr W) => show (fun W' => World.cell? W' ⟨w.heap.size, 0, none⟩ = some (.slice A b.length cap) ∧ World.cell? W' ⟨X, 2, none⟩ = some (.string ftype) ∧ (World.cell? W' ⟨gr, i * 5, none⟩ = some (.int .i64 xk) ∧ World.cell? W' ⟨gr, i * 5 + 1, none⟩ = some (.int .i64 xn) ∧ World.cell? W' ⟨gr, i * 5 + 2, none⟩ = some (.string xs) ∧ World.cell? W' ⟨gr, i * 5 + 3, none⟩ = some (.slice D1 xi.length e1) ∧ World.cell? W' ⟨gr, i * 5 + 4, none⟩ = some (.slice D2 xl.length e2))) W from ⟨(zB.below h zB.lt).cell 0, (zX.below h zX.lt).cell 2, (World.cell?_of_block (h.block _ hgl)).trans t0, (World.cell?_of_block (h.block _ hgl)).trans t1, (World.cell?_of_block (h.block _ hgl)).trans t2, (World.cell?_of_block (h.block _ hgl)).trans t3, (World.cell?_of_block (h.block _ hgl)).trans t4⟩)
        clear hcl hrx hlies hx hpv hset hxm t0 t1 t2 t3 t4
        go_upto_region 13 with fail
        have hbd := below_drew (Below.here wr)
        have hS := HS.out _ hbd
        have hwd : wr.drew.heap.size = wr.heap.size := rfl
        refine lateP_start (fun W' => World.cell? W' ⟨w.heap.size, 0, none⟩ = some (.slice A b.length cap) ∧ World.cell? W' ⟨X, 2, none⟩ = some (.string ftype) ∧ (World.cell? W' ⟨gr, i * 5, none⟩ = some (.int .i64 xk) ∧ World.cell? W' ⟨gr, i * 5 + 1, none⟩ = some (.int .i64 xn) ∧ World.cell? W' ⟨gr, i * 5 + 2, none⟩ = some (.string xs) ∧ World.cell? W' ⟨gr, i * 5 + 3, none⟩ = some (.slice D1 xi.length e1) ∧ World.cell? W' ⟨gr, i * 5 + 4, none⟩ = some (.slice D2 xl.length e2))) (fun i => decide (i < 11)) (by kernel_rfl) ?_
        generalize wr.drew = Wd at hS hbd hwd ⊢
        refine ppP 0 ?_
        try simp only [pu]
        refine ppP 1 ?_
        try simp only [pu]
        refine tkP 2 hS ?_
        try simp only [pu]
        refine ppP 3 ?_
        try simp only [pu]
        refine tkP 4 hS ?_
        try simp only [pu]
        refine ppP 5 ?_
        try simp only [pu]
        refine ppP 6 ?_
        try simp only [pu]
        refine ppP 7 ?_
        try simp only [pu]
        refine tkP 8 hS ?_
        try simp only [pu]
        refine lateP_one (i := 9) rfl (by kernel_rfl) (fun K hK => ?_)
        go_simp
        refine (HIH.out _ hbd).mono ?_
        rintro e w7 ⟨cs7, rfl, hr7, hb7⟩
        obtain ⟨pk, pn, ps, pi, pl⟩ := pv
        obtain ⟨E1, f1, E2, f2, rfl, -, -⟩ := hr7.parts
        have hB7 := below_via hbd hb7 hbd.size
        replace hS := HS.out _ hB7
        have Hall := Lib.hid (seen_store (cs := [.int .i64 pk, .int .i64 pn, .string ps, .slice E1 pi.length f1, .slice E2 pl.length f2]) (S' := S') (lo := w.heap.size) hO (mixL_len F L0 i) hil hgr hgl (fun y hy => (hT y hy).2) hwd hB7 hr7 rfl)
        have HT7 := Lib.hid hT
        have Hst7 := Lib.hid (show Rows2 (fun y => ((fun y => w1.heap.size + 1 + 1 ≤ y ∨ (S' y ∧ y < w.heap.size))) y ∧ y < W0.heap.size) (w1.heap.size + 1 + 1) w7 (w1.heap.size + 1) vi vl (P0.map (·.1)) (P0.map (·.2)) ∧ Box w7 (w1.heap.size + 1) 37 [.int .i64 2, .int .i64 0, .string ⟨#[]⟩, vi, vl] ∧ (Box w7 (w.heap.size + 1 + 1) 37 [.int .i64 0, .int .i64 0, .string ⟨#[]⟩, .slice none 0 0, .slice none 0 0] ∧ Box w7 (w.heap.size + 1) 37 [.int .i64 kind, .int .i64 nn, .string s, .slice I1 ids.length d1, .slice I2 l.length d2] ∧ Box w7 w.heap.size 24 [.slice A b.length cap]) ∧ Box w7 X 55 [.int .i64 fid, .string fname, .string ftype, .int .i64 fkind, .int .i64 frule] ∧ Below w.heap.size w w7 ∧ (W0.heap.size + 1) ≤ (w7).heap.size from ⟨hR.below hB7, zG.below hB7 zG.lt, ⟨zR.below hB7 zR.lt, zV.below hB7 zV.lt, zB.below hB7 zB.lt⟩, zX.below hB7 zX.lt, below_via hw hB7 hw.size, Nat.le_trans hk0 hB7.size⟩)
        have HB7 := Lib.hid hB7.size
        clear hr7 hb7 hbd hB7 HIH HS hO hT hR zG zR zV zB zX hw
        refine hK.out _ _ (fun _ _ => hS) ?_
        clear hK K
        try simp only [pu]
        refine ppP 10 ?_
        try simp only [pu]
        obtain ⟨-, -, d0, d1, d2, d3, d4⟩ := hS
        obtain ⟨f0, f1', f2', f3, f4⟩ := Hall.out.1
        have hlr : gr < w7.heap.size := Nat.lt_of_lt_of_le hgl HB7.out
        have k1 : ((World.setCell w7 ⟨gr, i * 5, none⟩ (.int .i64 pk))).cell? ⟨gr, i * 5 + 1, none⟩ = some (.int .i64 xn) := by rw [cell_beside3 (by go_light; omega)]; exact d1
        have m1 : ((World.setCell w7 ⟨gr, i * 5, none⟩ (.int .i64 pk))).frozen? ⟨gr, i * 5 + 1, none⟩ = false := by simp only [World.frozen?_setCell]; exact f1'
        have k2 : ((World.setCell (World.setCell w7 ⟨gr, i * 5, none⟩ (.int .i64 pk)) ⟨gr, i * 5 + 1, none⟩ (.int .i64 pn))).cell? ⟨gr, i * 5 + 2, none⟩ = some (.string xs) := by rw [cell_beside3 (by go_light; omega), cell_beside3 (by go_light; omega)]; exact d2
        have m2 : ((World.setCell (World.setCell w7 ⟨gr, i * 5, none⟩ (.int .i64 pk)) ⟨gr, i * 5 + 1, none⟩ (.int .i64 pn))).frozen? ⟨gr, i * 5 + 2, none⟩ = false := by simp only [World.frozen?_setCell]; exact f2'
        have k3 : ((World.setCell (World.setCell (World.setCell w7 ⟨gr, i * 5, none⟩ (.int .i64 pk)) ⟨gr, i * 5 + 1, none⟩ (.int .i64 pn)) ⟨gr, i * 5 + 2, none⟩ (.string ps))).cell? ⟨gr, i * 5 + 3, none⟩ = some (.slice D1 xi.length e1) := by rw [cell_beside3 (by go_light; omega), cell_beside3 (by go_light; omega), cell_beside3 (by go_light; omega)]; exact d3
        have m3 : ((World.setCell (World.setCell (World.setCell w7 ⟨gr, i * 5, none⟩ (.int .i64 pk)) ⟨gr, i * 5 + 1, none⟩ (.int .i64 pn)) ⟨gr, i * 5 + 2, none⟩ (.string ps))).frozen? ⟨gr, i * 5 + 3, none⟩ = false := by simp only [World.frozen?_setCell]; exact f3
        have k4 : ((World.setCell (World.setCell (World.setCell (World.setCell w7 ⟨gr, i * 5, none⟩ (.int .i64 pk)) ⟨gr, i * 5 + 1, none⟩ (.int .i64 pn)) ⟨gr, i * 5 + 2, none⟩ (.string ps)) ⟨gr, i * 5 + 3, none⟩ (.slice E1 pi.length f1))).cell? ⟨gr, i * 5 + 4, none⟩ = some (.slice D2 xl.length e2) := by rw [cell_beside3 (by go_light; omega), cell_beside3 (by go_light; omega), cell_beside3 (by go_light; omega), cell_beside3 (by go_light; omega)]; exact d4
        have m4 : ((World.setCell (World.setCell (World.setCell (World.setCell w7 ⟨gr, i * 5, none⟩ (.int .i64 pk)) ⟨gr, i * 5 + 1, none⟩ (.int .i64 pn)) ⟨gr, i * 5 + 2, none⟩ (.string ps)) ⟨gr, i * 5 + 3, none⟩ (.slice E1 pi.length f1))).frozen? ⟨gr, i * 5 + 4, none⟩ = false := by simp only [World.frozen?_setCell]; exact f4
        refine lateP_one (i := 11) rfl (by kernel_rfl) (fun K hK => ?_)
        go_simp
        refine hK.out _ _ (fun h => absurd h (by decide)) ?_
        clear hK K
        try simp only [pu]
        refine lateP_done (by kernel_rfl) ?_ _
        change Exit.inBlock _ _ _ _ (setCells w7 gr (i * 5) [.int .i64 pk, .int .i64 pn, .string ps, .slice E1 pi.length f1, .slice E2 pl.length f2])
        clear d0 d1 d2 d3 d4 f0 f1' f2' f3 f4 k1 m1 k2 m2 k3 m3 k4 m4
        have hgf : ∀ y, y < W0.heap.size → y ≠ gr := fun y hy => by omega
        obtain ⟨hG1, hX1, hs1⟩ := HX.out
        have hst8 : Rows2 (fun y => ((fun y => w1.heap.size + 1 + 1 ≤ y ∨ (S' y ∧ y < w.heap.size))) y ∧ y < W0.heap.size) (w1.heap.size + 1 + 1) (setCells w7 gr (i * 5) [.int .i64 pk, .int .i64 pn, .string ps, .slice E1 pi.length f1, .slice E2 pl.length f2]) (w1.heap.size + 1) vi vl (P0.map (·.1)) (P0.map (·.2)) ∧ Box (setCells w7 gr (i * 5) [.int .i64 pk, .int .i64 pn, .string ps, .slice E1 pi.length f1, .slice E2 pl.length f2]) (w1.heap.size + 1) 37 [.int .i64 2, .int .i64 0, .string ⟨#[]⟩, vi, vl] ∧ (Box (setCells w7 gr (i * 5) [.int .i64 pk, .int .i64 pn, .string ps, .slice E1 pi.length f1, .slice E2 pl.length f2]) (w.heap.size + 1 + 1) 37 [.int .i64 0, .int .i64 0, .string ⟨#[]⟩, .slice none 0 0, .slice none 0 0] ∧ Box (setCells w7 gr (i * 5) [.int .i64 pk, .int .i64 pn, .string ps, .slice E1 pi.length f1, .slice E2 pl.length f2]) (w.heap.size + 1) 37 [.int .i64 kind, .int .i64 nn, .string s, .slice I1 ids.length d1, .slice I2 l.length d2] ∧ Box (setCells w7 gr (i * 5) [.int .i64 pk, .int .i64 pn, .string ps, .slice E1 pi.length f1, .slice E2 pl.length f2]) w.heap.size 24 [.slice A b.length cap]) ∧ Box (setCells w7 gr (i * 5) [.int .i64 pk, .int .i64 pn, .string ps, .slice E1 pi.length f1, .slice E2 pl.length f2]) X 55 [.int .i64 fid, .string fname, .string ftype, .int .i64 fkind, .int .i64 frule] ∧ Below w.heap.size w (setCells w7 gr (i * 5) [.int .i64 pk, .int .i64 pn, .string ps, .slice E1 pi.length f1, .slice E2 pl.length f2]) ∧ (W0.heap.size + 1) ≤ ((setCells w7 gr (i * 5) [.int .i64 pk, .int .i64 pn, .string ps, .slice E1 pi.length f1, .slice E2 pl.length f2])).heap.size := by
         obtain ⟨hR, zG, ⟨zR, zV, zB⟩, zX, hw, hk⟩ := Hst7.out
         refine ⟨hR.farCells (fun e => by have := hvi.out _ e; omega) (fun e => by have := hvl.out _ e; omega) (fun h => by have := h.2; omega) _ _, zG.farCells (by omega) _ _, ⟨zR.farCells (by omega) _ _, zV.farCells (by omega) _ _, zB.farCells (by omega) _ _⟩, zX.farCells (by omega) _ _, below_setCells (by omega) _ _ _ hw, ?_⟩
         rw [size_setCells]; exact hk
        have hT8 : Hid (∀ y, (fun y => T y ∨ (wr.heap.size ≤ y ∧ y < w7.heap.size)) y → ((S' y ∧ y < w.heap.size) ∨ (W0.heap.size + 1) ≤ y) ∧ y < ((setCells w7 gr (i * 5) [.int .i64 pk, .int .i64 pn, .string ps, .slice E1 pi.length f1, .slice E2 pl.length f2])).heap.size) := fun y hy => by
         rw [size_setCells]
         have hs7 := HB7.out
         rcases hy with hy | hy
         ·have := HT7.out y hy
          exact ⟨this.1, Nat.lt_of_lt_of_le this.2 hs7⟩
         ·exact ⟨.inr (Nat.le_trans hk0 hy.1), hy.2⟩
        have hO8 := Hall.out.2
        rw [Hset.out] at hO8
        have Hst8 := Lib.hid hst8
        clear hst8 Hall hgf
        generalize setCells w7 gr (i * 5) _ = w8 at hO8 Hst8 hT8 ⊢
        go_wp2_with fail
        go_roundw
        case rel => exact ⟨i + 1, _, by simp, by omega, hO8, hT8, Hst8.out⟩
        case measure => simp [intOf]; omega
       ·--[IEND
        obtain rfl : i = L0.length := by omega
        have hmx : mixL F L0 L0.length = Lz := by rw [hLe.out]; unfold mixL; simp
        rw [hmx] at hO
        have Hst := Lib.hid (show Rows2 (fun y => ((fun y => w1.heap.size + 1 + 1 ≤ y ∨ (S' y ∧ y < w.heap.size))) y ∧ y < W0.heap.size) (w1.heap.size + 1 + 1) wr (w1.heap.size + 1) vi vl (P0.map (·.1)) (P0.map (·.2)) ∧ Box wr (w1.heap.size + 1) 37 [.int .i64 2, .int .i64 0, .string ⟨#[]⟩, vi, vl] ∧ (Box wr (w.heap.size + 1 + 1) 37 [.int .i64 0, .int .i64 0, .string ⟨#[]⟩, .slice none 0 0, .slice none 0 0] ∧ Box wr (w.heap.size + 1) 37 [.int .i64 kind, .int .i64 nn, .string s, .slice I1 ids.length d1, .slice I2 l.length d2] ∧ Box wr w.heap.size 24 [.slice A b.length cap]) ∧ Box wr X 55 [.int .i64 fid, .string fname, .string ftype, .int .i64 fkind, .int .i64 frule] ∧ Below w.heap.size w wr ∧ (W0.heap.size + 1) ≤ (wr).heap.size from ⟨hR, zG, ⟨zR, zV, zB⟩, zX, hw, hk0⟩)
        clear hR zG zR zV zB zX hw
        go_wp2_with fail
        go_meet
        case rel => exact ⟨T, hO, hT, Hst.out⟩
     ·--[SAME
      have hkb : (fkind == 5) = false := by simpa using hk5
      have hLe : Lz = L0 := by
       rw [HLz.out]
       unfold seenL
       rw [if_neg (of_decide_eq_false Hnq.out.symm), if_neg hk5]
      have c3 : W1.cell? ⟨X, 3, none⟩ = some (.int .i64 fkind) := zX.cell 3
      have cl := zX.lt
      have Hst := Lib.hid (show Rows2 (fun y => ((fun y => w1.heap.size + 1 + 1 ≤ y ∨ (S' y ∧ y < w.heap.size))) y ∧ y < W0.heap.size) (w1.heap.size + 1 + 1) W1 (w1.heap.size + 1) vi vl (P0.map (·.1)) (P0.map (·.2)) ∧ Box W1 (w1.heap.size + 1) 37 [.int .i64 2, .int .i64 0, .string ⟨#[]⟩, vi, vl] ∧ (Box W1 (w.heap.size + 1 + 1) 37 [.int .i64 0, .int .i64 0, .string ⟨#[]⟩, .slice none 0 0, .slice none 0 0] ∧ Box W1 (w.heap.size + 1) 37 [.int .i64 kind, .int .i64 nn, .string s, .slice I1 ids.length d1, .slice I2 l.length d2] ∧ Box W1 w.heap.size 24 [.slice A b.length cap]) ∧ Box W1 X 55 [.int .i64 fid, .string fname, .string ftype, .int .i64 fkind, .int .i64 frule] ∧ Below w.heap.size w W1 ∧ (W0.heap.size + 1) ≤ (W1).heap.size from ⟨hR, zG, ⟨zR, zV, zB⟩, zX, hw, hk0⟩)
      clear hR zG zR zV zB zX hw hk5
      go_wp2_with fail
      go_meet
      case rel => exact ⟨_, by rw [hLe]; exact hO, hT5, Hst.out⟩
   case rest =>
    clear hO hT5 hst
    obtain ⟨T, hO, hT, hR, zG, ⟨zR, zV, zB⟩, zX, hw, hk0⟩ := hcut
    obtain ⟨A13, c13, rfl, -⟩ := hO.form
    replace hR := hR.up (U' := (fun y => w1.heap.size + 1 + 1 ≤ y ∨ (S' y ∧ y < w.heap.size))) (fun y h => h.1)
    have hNi : NB (W0.heap.size + 1) wc.heap.size vi := fun k hk => .inl (Nat.lt_succ_of_lt (hvi.out k hk))
    have hNl : NB (W0.heap.size + 1) wc.heap.size vl := fun k hk => .inl (Nat.lt_succ_of_lt (hvl.out k hk))
    have zO : RowZ w.heap.size (w1.heap.size + 1) (W0.heap.size + 1) wc.heap.size T wc (.slice A13 Lz.length c13) Lz := ⟨hO, fun y hy => (hT y hy).2, fun y hy => (hT y hy).1.elim (fun h => .inl h.2) .inr, fun k hk => (hO.lt hk).2, by omega, by omega, Nat.le_refl _⟩
    have HT : Hid (∀ y, T y → (S' y ∧ y < w.heap.size) ∨ (W0.heap.size + 1) ≤ y) := fun y hy => (hT y hy).1
    generalize hKc : wc.heap.size = Kc at hNi hNl zO
    have Hst : Hid (projTo b d ty ids l (n + 1) = P0 ++ Lz.map fun x => (fid, x)) := Hsucc.out
    clear hO hT Hsucc Hnil HLz Hnq Hmem hvi hvl hKc hk0
    go_wp2_with fail
    go_loopw [70] (fun c70 wi => ∃ (j : Nat) (vi vl : Value), c70 = .int .i64 j ∧ j ≤ Lz.length ∧ Rows2 (fun y => w1.heap.size + 1 + 1 ≤ y ∨ (S' y ∧ y < w.heap.size)) (w1.heap.size + 1 + 1) wi (w1.heap.size + 1) vi vl ((P0 ++ (Lz.take j).map (fun x => (fid, x))).map (·.1)) ((P0 ++ (Lz.take j).map (fun x => (fid, x))).map (·.2)) ∧
     Box wi (w1.heap.size + 1) 37 [.int .i64 2, .int .i64 0, .string ⟨#[]⟩, vi, vl] ∧ (Box wi (w.heap.size + 1 + 1) 37 [.int .i64 0, .int .i64 0, .string ⟨#[]⟩, .slice none 0 0, .slice none 0 0] ∧ Box wi (w.heap.size + 1) 37 [.int .i64 kind, .int .i64 nn, .string s, .slice I1 ids.length d1, .slice I2 l.length d2] ∧ Box wi w.heap.size 24 [.slice A b.length cap]) ∧ Box wi X 55 [.int .i64 fid, .string fname, .string ftype, .int .i64 fkind, .int .i64 frule] ∧ RowZ w.heap.size (w1.heap.size + 1) (W0.heap.size + 1) Kc T wi (.slice A13 Lz.length c13) Lz ∧ NB (W0.heap.size + 1) Kc vi ∧ NB (W0.heap.size + 1) Kc vl ∧ Below w.heap.size w wi) (fun c70 _ => Lz.length - (intOf c70).toNat)
    case atStart => exact ⟨0, vi, vl, rfl, Nat.zero_le _, by simpa using hR, zG, ⟨zR, zV, zB⟩, zX, zO, hNi, hNl, hw⟩
    case round =>
     clear hR zG zR zV zB zX zO hNi hNl hw
     obtain ⟨j, vi, vl, rfl, hj, hR, zG, ⟨zR, zV, zB⟩, zX, zO, hNi, hNl, hw⟩ := hrel
     by_cases hjl : j < Lz.length
     ·--[JRND
      have hjl' : (j : Int) < (Lz.length : Int) := by omega
      obtain ⟨gz, rfl, -, hgl⟩ := zO.own.there_ (by omega)
      obtain ⟨cs, hcl, hrx, hlies⟩ := zO.own.cells (i := j) hjl
      have hsel : (Lz.take (j + 1)).map (fun x => (fid, x)) = (Lz.take j).map (fun x => (fid, x)) ++ [(fid, Lz[j])] := by rw [List.take_succ_eq_append_getElem hjl, List.map_append]; rfl
      obtain ⟨x, hx⟩ : ∃ x, x = Lz[j] := ⟨_, rfl⟩
      rw [← hx] at hrx hsel
      obtain ⟨pk, pn, ps, pi, pl⟩ := x
      obtain ⟨E1, f1, E2, f2, rfl, -, -⟩ := hrx.parts
      have t0 : wr.cell? ⟨gz, j * 5, none⟩ = some (.int .i64 pk) := by have := hlies.at_ 0 rfl; simpa using this
      have t1 : wr.cell? ⟨gz, j * 5 + 1, none⟩ = some (.int .i64 pn) := hlies.at_ 1 rfl
      have t2 : wr.cell? ⟨gz, j * 5 + 2, none⟩ = some (.string ps) := hlies.at_ 2 rfl
      have t3 : wr.cell? ⟨gz, j * 5 + 3, none⟩ = some (.slice E1 pi.length f1) := hlies.at_ 3 rfl
      have t4 : wr.cell? ⟨gz, j * 5 + 4, none⟩ = some (.slice E2 pl.length f2) := hlies.at_ 4 rfl
      obtain ⟨Sj, hSj⟩ : ∃ S, S = (Lz.take j).map (fun x => (fid, x)) := ⟨_, rfl⟩
      have hS2 : Sj.length ≤ 401 := by rw [hSj, List.length_map, List.length_take]; omega
      rw [← hSj] at hR hsel
      have Hsel2 := Lib.hid hsel
      have hGX : (w1.heap.size + 1) < X := hXG
      have hXr : RVal (fun y => Apart (fun y => w1.heap.size + 1 + 1 ≤ y ∨ (S' y ∧ y < w.heap.size)) (w1.heap.size + 1) vi vl y ∧ y < (wr.alloc (.cells [.int .i64 pk, .int .i64 pn, .string ps, .slice E1 pi.length f1, .slice E2 pl.length f2].toArray 37)).heap.size) (wr.alloc (.cells [.int .i64 pk, .int .i64 pn, .string ps, .slice E1 pi.length f1, .slice E2 pl.length f2].toArray 37)) [.int .i64 pk, .int .i64 pn, .string ps, .slice E1 pi.length f1, .slice E2 pl.length f2] (.mk pk pn ps pi pl) := RVal.fair.mono (RVal.fair.keep hrx (Keep.alloc _ wr _)) (fun y hy hl => by
       have h1 := HT.out y hy
       have h2 := zO.sep hNi (fun k hk => by have := (hR.ilt hk).1; omega)
       have h3 := zO.sep hNl (fun k hk => by have := (hR.llt hk).1; omega)
       refine ⟨⟨?_, fun e => (h2 y e).1 hy, fun e => (h3 y e).1 hy, ?_⟩, hl⟩
       ·rintro rfl
        rcases h1 with h | h
        ·have := h.2; omega
        ·omega
       ·rcases h1 with h | h
        ·exact .inr h
        ·exact .inl (by omega))
      have HXr := Lib.hid hXr
      have hn1 : ∀ k, vi.ownBlock = some k → ¬ (fun y => Apart (fun y => w1.heap.size + 1 + 1 ≤ y ∨ (S' y ∧ y < w.heap.size)) (w1.heap.size + 1) vi vl y ∧ y < (wr.alloc (.cells [.int .i64 pk, .int .i64 pn, .string ps, .slice E1 pi.length f1, .slice E2 pl.length f2].toArray 37)).heap.size) k := fun k hk h => h.1.2.1 hk
      have zQ : Box (wr.alloc (.cells [.int .i64 pk, .int .i64 pn, .string ps, .slice E1 pi.length f1, .slice E2 pl.length f2].toArray 37)) wr.heap.size 37 [.int .i64 pk, .int .i64 pn, .string ps, .slice E1 pi.length f1, .slice E2 pl.length f2] := Box.new wr _ _
      have hnQ : vl.ownBlock ≠ some wr.heap.size := fun e => by have := (hR.llt e).2; omega
      replace hR := hR.alloc (.cells [.int .i64 pk, .int .i64 pn, .string ps, .slice E1 pi.length f1, .slice E2 pl.length f2].toArray 37)
      replace zG := zG.alloc (.cells [.int .i64 pk, .int .i64 pn, .string ps, .slice E1 pi.length f1, .slice E2 pl.length f2].toArray 37)
      replace zR := zR.alloc (.cells [.int .i64 pk, .int .i64 pn, .string ps, .slice E1 pi.length f1, .slice E2 pl.length f2].toArray 37)
      replace zV := zV.alloc (.cells [.int .i64 pk, .int .i64 pn, .string ps, .slice E1 pi.length f1, .slice E2 pl.length f2].toArray 37)
      replace zB := zB.alloc (.cells [.int .i64 pk, .int .i64 pn, .string ps, .slice E1 pi.length f1, .slice E2 pl.length f2].toArray 37)
      replace zX := zX.alloc (.cells [.int .i64 pk, .int .i64 pn, .string ps, .slice E1 pi.length f1, .slice E2 pl.length f2].toArray 37)
      replace zO := zO.alloc (.cells [.int .i64 pk, .int .i64 pn, .string ps, .slice E1 pi.length f1, .slice E2 pl.length f2].toArray 37)
      replace hw := hw.alloc hw.size (.cells [.int .i64 pk, .int .i64 pn, .string ps, .slice E1 pi.length f1, .slice E2 pl.length f2].toArray 37)
      clear hcl hrx hlies hx hSj hsel hXr
      go_upto_region 18 with fail
      clear t0 t1 t2 t3 t4 hgl
      generalize wr.heap.size = Q at zQ hnQ ⊢
      generalize (World.alloc wr _) = wc at zQ zG zR zV zB zX zO hw hR HXr hn1 ⊢
      have hdr : wc.drew.heap.size = wc.heap.size := rfl
      have hS := trivial
      have HSK : Hid (∀ W', Box W' (w1.heap.size + 1) 37 [.int .i64 2, .int .i64 0, .string ⟨#[]⟩, vi, vl] → Box W' X 55 [.int .i64 fid, .string fname, .string ftype, .int .i64 fkind, .int .i64 frule] → Box W' Q 37 [.int .i64 pk, .int .i64 pn, .string ps, .slice E1 pi.length f1, .slice E2 pl.length f2] → (fun W' => (W'.cell? ⟨(w1.heap.size + 1), 3, none⟩ = some vi ∧ W'.cell? ⟨(w1.heap.size + 1), 4, none⟩ = some vl) ∧ W'.cell? ⟨X, 0, none⟩ = some (.int .i64 fid) ∧ (W'.cell? ⟨Q, 0, none⟩ = some (.int .i64 pk) ∧ W'.cell? ⟨Q, 1, none⟩ = some (.int .i64 pn) ∧ W'.cell? ⟨Q, 2, none⟩ = some (.string ps) ∧ W'.cell? ⟨Q, 3, none⟩ = some (.slice E1 pi.length f1) ∧ W'.cell? ⟨Q, 4, none⟩ = some (.slice E2 pl.length f2))) W') := fun W' h1 h2 h3 => ⟨⟨h1.cell 3, h1.cell 4⟩, h2.cell 0, h3.five⟩
      replace hR := hR.drew
      replace zG := zG.drew
      replace zR := zR.drew
      replace zV := zV.drew
      replace zB := zB.drew
      replace zX := zX.drew
      (first | (replace zO := zO.drew) | skip)
      (first | (replace zQ := zQ.drew) | (replace zQ := zQ.grown hg5 hnQ))
      replace hw := below_drew hw
      replace hS := HSK.out _ zG zX zQ
      refine late_start (fun W' => (W'.cell? ⟨(w1.heap.size + 1), 3, none⟩ = some vi ∧ W'.cell? ⟨(w1.heap.size + 1), 4, none⟩ = some vl) ∧ W'.cell? ⟨X, 0, none⟩ = some (.int .i64 fid) ∧ (W'.cell? ⟨Q, 0, none⟩ = some (.int .i64 pk) ∧ W'.cell? ⟨Q, 1, none⟩ = some (.int .i64 pn) ∧ W'.cell? ⟨Q, 2, none⟩ = some (.string ps) ∧ W'.cell? ⟨Q, 3, none⟩ = some (.slice E1 pi.length f1) ∧ W'.cell? ⟨Q, 4, none⟩ = some (.slice E2 pl.length f2))) 12 (by kernel_rfl) ?_
      refine tkL 0 hS ?_
      try simp only [pu]
      refine tkL 1 hS ?_
      try simp only [pu]
      refine tkL 2 hS ?_
      try simp only [pu]
      refine tkL 3 hS ?_
      try simp only [pu]
      refine tkL 6 hS ?_
      try simp only [pu]
      refine tkL 7 hS ?_
      try simp only [pu]
      refine tkL 8 hS ?_
      try simp only [pu]
      refine late_two (i := 4) (j := 9) rfl rfl (by kernel_rfl) (fun K hK => ?_) (fun K hK => ?_)
      ·go_simp
       have hZ1 := Box.newB hw 3 [.int .i64 fid]
       try simp only [World.size_alloc] at hZ1
       replace hR := hR.alloc (.cells #[.int .i64 fid] 3)
       replace zG := zG.alloc (.cells #[.int .i64 fid] 3)
       replace zR := zR.alloc (.cells #[.int .i64 fid] 3)
       replace zV := zV.alloc (.cells #[.int .i64 fid] 3)
       replace zB := zB.alloc (.cells #[.int .i64 fid] 3)
       replace zX := zX.alloc (.cells #[.int .i64 fid] 3)
       (first | (replace zO := zO.alloc (.cells #[.int .i64 fid] 3)) | skip)
       (first | (replace zQ := zQ.alloc (.cells #[.int .i64 fid] 3)) | (replace zQ := zQ.grown hg5 hnQ))
       (first | (replace hZ2 := hZ2.alloc (.cells #[.int .i64 fid] 3)) | skip)
       replace hw := hw.alloc hw.size (.cells #[.int .i64 fid] 3)
       replace hS := HSK.out _ zG zX zQ
       refine hK.out _ _ (fun _ => hS) ?_
       clear hK K
       try simp only [pu]
       refine late_two (i := 5) (j := 9) rfl rfl (by kernel_rfl) (fun K hK => ?_) (fun K hK => ?_)
       ·--[R1
        refine step_append _ rfl (.tmp 75) (.tmp 78) rfl sl_ints RInt.fair rfl rfl hR.ids (Src.one (es := [.int .i64 fid]) (y := fid) rfl (Ones.of_all rfl) rfl hZ1.lies) (NoT.lt _) (by go_light; simp; omega) hR.hb ?_
        intro v1 wk1 ho1 hg1 hv1
        have hR' := hR.push_id ho1 hg1 hv1
        have hNi' := nb_grow hNi hv1 zO.kc
        replace zG := zG.grownR hR.ids (by first | exact .inl (by go_light; omega) | exact .inr (by decide)) hg1
        replace zR := zR.grownR hR.ids (by first | exact .inl (by go_light; omega) | exact .inr (by decide)) hg1
        replace zV := zV.grownR hR.ids (by first | exact .inl (by go_light; omega) | exact .inr (by decide)) hg1
        replace zB := zB.grownR hR.ids (by first | exact .inl (by go_light; omega) | exact .inr (by decide)) hg1
        replace zX := zX.grownR hR.ids (by first | exact .inl (by go_light; omega) | exact .inr (by decide)) hg1
        (first | (replace zO := zO.grownR hR.ids (by first | exact .inl (by go_light; omega) | exact .inr (by decide)) hg1) | skip)
        (first | (replace zQ := zQ.grownR hR.ids (by first | exact .inl (by go_light; omega) | exact .inr (by decide)) hg1) | (replace zQ := zQ.grown hg5 hnQ))
        (first | (replace hZ2 := hZ2.grownR hR.ids (.inr (by decide)) hg1) | skip)
        replace zO := zO.grownI hg1 (zO.sep hNi (fun k hk => by have := (hR.ilt hk).1; go_light; omega))
        replace hNi := hNi'
        clear hNi'
        replace hw := below_grown hw hg1 hw.size (fun g' h => by go_light; have := (hR.ilt h).1; omega)
        replace hR := hR'
        clear hR'
        replace hS := HSK.out _ zG zX zQ
        refine hK.out _ _ (fun _ => hS) ?_
        clear hK K
        try simp only [pu]
        refine tkL 11 hS ?_
        try simp only [pu]
        refine late_one (i := 9) rfl (by kernel_rfl) (fun K hK => ?_)
        go_simp
        have hZ2 := Box.newB hw 37 [.int .i64 pk, .int .i64 pn, .string ps, .slice E1 pi.length f1, .slice E2 pl.length f2]
        try simp only [World.size_alloc] at hZ2
        replace hR := hR.alloc (.cells [.int .i64 pk, .int .i64 pn, .string ps, .slice E1 pi.length f1, .slice E2 pl.length f2].toArray 37)
        replace zG := zG.alloc (.cells [.int .i64 pk, .int .i64 pn, .string ps, .slice E1 pi.length f1, .slice E2 pl.length f2].toArray 37)
        replace zR := zR.alloc (.cells [.int .i64 pk, .int .i64 pn, .string ps, .slice E1 pi.length f1, .slice E2 pl.length f2].toArray 37)
        replace zV := zV.alloc (.cells [.int .i64 pk, .int .i64 pn, .string ps, .slice E1 pi.length f1, .slice E2 pl.length f2].toArray 37)
        replace zB := zB.alloc (.cells [.int .i64 pk, .int .i64 pn, .string ps, .slice E1 pi.length f1, .slice E2 pl.length f2].toArray 37)
        replace zX := zX.alloc (.cells [.int .i64 pk, .int .i64 pn, .string ps, .slice E1 pi.length f1, .slice E2 pl.length f2].toArray 37)
        (first | (replace zO := zO.alloc (.cells [.int .i64 pk, .int .i64 pn, .string ps, .slice E1 pi.length f1, .slice E2 pl.length f2].toArray 37)) | skip)
        (first | (replace zQ := zQ.alloc (.cells [.int .i64 pk, .int .i64 pn, .string ps, .slice E1 pi.length f1, .slice E2 pl.length f2].toArray 37)) | (replace zQ := zQ.grown hg5 hnQ))
        (first | (replace hZ1 := hZ1.alloc (.cells [.int .i64 pk, .int .i64 pn, .string ps, .slice E1 pi.length f1, .slice E2 pl.length f2].toArray 37)) | skip)
        replace hw := hw.alloc hw.size (.cells [.int .i64 pk, .int .i64 pn, .string ps, .slice E1 pi.length f1, .slice E2 pl.length f2].toArray 37)
        replace hS := HSK.out _ zG zX zQ
        refine hK.out _ _ (fun _ => hS) ?_
        clear hK K
        try simp only [pu]
        refine late_one (i := 10) rfl (by kernel_rfl) (fun K hK => ?_)
        refine step_append _ rfl (.tmp 81) (.tmp 83) rfl sl_vals RVal.fair rfl rfl hR.lrow (Src.one (es := [.int .i64 pk, .int .i64 pn, .string ps, .slice E1 pi.length f1, .slice E2 pl.length f2]) (y := ValueD.mk pk pn ps pi pl) rfl (Ones.of_all rfl) (hR.apart2 (RVal.fair.keep HXr.out (by first | exact (((Keep.drew _ _).trans (Keep.alloc _ _ _)).trans (Keep.of_grown hg1 hn1)).trans (Keep.alloc _ _ _) | exact (((Keep.drew _ _).trans (Keep.alloc _ _ _)).trans (Keep.alloc _ _ _)).trans (Keep.of_grown hg1 hn1))) ?ap) hZ2.lies) (fun _ h => h.2) (by go_light; simp; omega) hR.hb ?_
        case ap =>
         rintro y ⟨hy1, hy2⟩
         refine ⟨hy1.1, fun e => ?_, hy1.2.2.1, hy1.2.2.2⟩
         rcases hv1 with h | h
         ·exact hy1.2.1 (h ▸ e)
         ·rw [h] at e
          have e' := Option.some.inj e
          simp at e'
          go_light
          omega
        intro v5 w5 ho5 hg5 hv5
        have hR' := hR.push_l ho5 hg5 hv5
        have hNl' := nb_grow hNl hv5 zO.kc
        replace zG := zG.grownR hR.l (by first | exact .inl (by go_light; omega) | exact .inr (by decide)) hg5
        replace zR := zR.grownR hR.l (by first | exact .inl (by go_light; omega) | exact .inr (by decide)) hg5
        replace zV := zV.grownR hR.l (by first | exact .inl (by go_light; omega) | exact .inr (by decide)) hg5
        replace zB := zB.grownR hR.l (by first | exact .inl (by go_light; omega) | exact .inr (by decide)) hg5
        replace zX := zX.grownR hR.l (by first | exact .inl (by go_light; omega) | exact .inr (by decide)) hg5
        (first | (replace zO := zO.grownR hR.l (by first | exact .inl (by go_light; omega) | exact .inr (by decide)) hg5) | skip)
        (first | (replace zQ := zQ.grownR hR.l (by first | exact .inl (by go_light; omega) | exact .inr (by decide)) hg5) | (replace zQ := zQ.grown hg5 hnQ))
        replace zO := zO.grownI hg5 (zO.sep hNl (fun k hk => by have := (hR.llt hk).1; go_light; omega))
        replace hNl := hNl'
        clear hNl'
        replace hw := below_grown hw hg5 hw.size (fun g' h => by go_light; have := (hR.llt h).1; omega)
        replace hR := hR'
        clear hR'
        replace hS := HSK.out _ zG zX zQ
        have fz3 := zG.frozen 3
        have cz3 := zG.cell 3
        have fz4 := zG.frozen 4
        have cz4 := zG.cell 4
        have lz := zG.lt
        simp only [List.getElem?_cons_zero, List.getElem?_cons_succ] at cz3 cz4
        obtain ⟨R1, p1, rfl, _⟩ := hR.ids.form
        obtain ⟨R2, p2, rfl, _⟩ := hR.l.form
        refine hK.out _ _ (fun _ => hS) ?_
        clear hK K
        try simp only [pu]
        refine late_one (i := 12) rfl (by kernel_rfl) (fun K hK => ?_)
        go_simp
        refine hK.out _ _ (fun h => absurd h (by decide)) ?_
        clear hK K
        try simp only [pu]
        refine late_one (i := 13) rfl (by kernel_rfl) (fun K hK => ?_)
        go_simp
        refine hK.out _ _ (fun h => absurd h (by decide)) ?_
        clear hK K
        try simp only [pu]
        refine late_one (i := 14) rfl (by kernel_rfl) (fun K hK => ?_)
        go_simp
        refine hK.out _ _ (fun h => absurd h (by decide)) ?_
        clear hK K
        try simp only [pu]
        refine late_done (by kernel_rfl) ?_ _
        simp only [List.length_append, List.length_map, List.length_cons, List.length_nil, Nat.zero_add] at hR
        replace hR := (hR.setCell 3 (.slice R1 (P0.length + Sj.length + 1) p1)).setCell 4 (.slice R2 (P0.length + Sj.length + 1) p2)
        replace zG := (zG.set_ 3 (.slice R1 (P0.length + Sj.length + 1) p1)).set_ 4 (.slice R2 (P0.length + Sj.length + 1) p2)
        simp only [List.set_cons_zero, List.set_cons_succ, List.length_append, List.length_map, List.length_cons, List.length_nil, Nat.zero_add] at zG
        replace zR := zR.far (p := ⟨(w1.heap.size + 1), 3, none⟩) (by first | (simp; done) | (simp; omega)) (.slice R1 (P0.length + Sj.length + 1) p1)
        replace zV := zV.far (p := ⟨(w1.heap.size + 1), 3, none⟩) (by first | (simp; done) | (simp; omega)) (.slice R1 (P0.length + Sj.length + 1) p1)
        replace zB := zB.far (p := ⟨(w1.heap.size + 1), 3, none⟩) (by first | (simp; done) | (simp; omega)) (.slice R1 (P0.length + Sj.length + 1) p1)
        replace zX := zX.far (p := ⟨(w1.heap.size + 1), 3, none⟩) (by first | (simp; done) | (simp; omega)) (.slice R1 (P0.length + Sj.length + 1) p1)
        replace zO := zO.far (p := ⟨(w1.heap.size + 1), 3, none⟩) (by first | (simp; done) | (simp; omega)) (.slice R1 (P0.length + Sj.length + 1) p1)
        replace zR := zR.far (p := ⟨(w1.heap.size + 1), 4, none⟩) (by first | (simp; done) | (simp; omega)) (.slice R2 (P0.length + Sj.length + 1) p2)
        replace zV := zV.far (p := ⟨(w1.heap.size + 1), 4, none⟩) (by first | (simp; done) | (simp; omega)) (.slice R2 (P0.length + Sj.length + 1) p2)
        replace zB := zB.far (p := ⟨(w1.heap.size + 1), 4, none⟩) (by first | (simp; done) | (simp; omega)) (.slice R2 (P0.length + Sj.length + 1) p2)
        replace zX := zX.far (p := ⟨(w1.heap.size + 1), 4, none⟩) (by first | (simp; done) | (simp; omega)) (.slice R2 (P0.length + Sj.length + 1) p2)
        replace zO := zO.far (p := ⟨(w1.heap.size + 1), 4, none⟩) (by first | (simp; done) | (simp; omega)) (.slice R2 (P0.length + Sj.length + 1) p2)
        replace hw := (hw.setCell (p := ⟨(w1.heap.size + 1), 3, none⟩) (by first | (simp; done) | (simp; omega)) (.slice R1 (P0.length + Sj.length + 1) p1)).setCell (p := ⟨(w1.heap.size + 1), 4, none⟩) (by first | (simp; done) | (simp; omega)) (.slice R2 (P0.length + Sj.length + 1) p2)
        clear hS fz3 cz3 fz4 cz4 lz hg5 hv5 ho5 hg1 hv1 ho1
        go_wp2_with fail
        go_roundw
        case rel => exact ⟨j + 1, _, _, by go_num, by go_light; omega, by rw [Hsel2.out]; simpa [Nat.add_assoc] using hR, zG, ⟨zR, zV, zB⟩, zX, zO, nb_len hNi, nb_len hNl, hw⟩
        case measure => go_light; simp [intOf]; omega
       ·--[R2
        go_simp
        have hZ2 := Box.newB hw 37 [.int .i64 pk, .int .i64 pn, .string ps, .slice E1 pi.length f1, .slice E2 pl.length f2]
        try simp only [World.size_alloc] at hZ2
        replace hR := hR.alloc (.cells [.int .i64 pk, .int .i64 pn, .string ps, .slice E1 pi.length f1, .slice E2 pl.length f2].toArray 37)
        replace zG := zG.alloc (.cells [.int .i64 pk, .int .i64 pn, .string ps, .slice E1 pi.length f1, .slice E2 pl.length f2].toArray 37)
        replace zR := zR.alloc (.cells [.int .i64 pk, .int .i64 pn, .string ps, .slice E1 pi.length f1, .slice E2 pl.length f2].toArray 37)
        replace zV := zV.alloc (.cells [.int .i64 pk, .int .i64 pn, .string ps, .slice E1 pi.length f1, .slice E2 pl.length f2].toArray 37)
        replace zB := zB.alloc (.cells [.int .i64 pk, .int .i64 pn, .string ps, .slice E1 pi.length f1, .slice E2 pl.length f2].toArray 37)
        replace zX := zX.alloc (.cells [.int .i64 pk, .int .i64 pn, .string ps, .slice E1 pi.length f1, .slice E2 pl.length f2].toArray 37)
        (first | (replace zO := zO.alloc (.cells [.int .i64 pk, .int .i64 pn, .string ps, .slice E1 pi.length f1, .slice E2 pl.length f2].toArray 37)) | skip)
        (first | (replace zQ := zQ.alloc (.cells [.int .i64 pk, .int .i64 pn, .string ps, .slice E1 pi.length f1, .slice E2 pl.length f2].toArray 37)) | (replace zQ := zQ.grown hg5 hnQ))
        (first | (replace hZ1 := hZ1.alloc (.cells [.int .i64 pk, .int .i64 pn, .string ps, .slice E1 pi.length f1, .slice E2 pl.length f2].toArray 37)) | skip)
        replace hw := hw.alloc hw.size (.cells [.int .i64 pk, .int .i64 pn, .string ps, .slice E1 pi.length f1, .slice E2 pl.length f2].toArray 37)
        replace hS := HSK.out _ zG zX zQ
        refine hK.out _ _ (fun _ => hS) ?_
        clear hK K
        try simp only [pu]
        refine late_one (i := 5) rfl (by kernel_rfl) (fun K hK => ?_)
        refine step_append _ rfl (.tmp 75) (.tmp 78) rfl sl_ints RInt.fair rfl rfl hR.ids (Src.one (es := [.int .i64 fid]) (y := fid) rfl (Ones.of_all rfl) rfl hZ1.lies) (NoT.lt _) (by go_light; simp; omega) hR.hb ?_
        intro v1 wk1 ho1 hg1 hv1
        have hR' := hR.push_id ho1 hg1 hv1
        have hNi' := nb_grow hNi hv1 zO.kc
        replace zG := zG.grownR hR.ids (by first | exact .inl (by go_light; omega) | exact .inr (by decide)) hg1
        replace zR := zR.grownR hR.ids (by first | exact .inl (by go_light; omega) | exact .inr (by decide)) hg1
        replace zV := zV.grownR hR.ids (by first | exact .inl (by go_light; omega) | exact .inr (by decide)) hg1
        replace zB := zB.grownR hR.ids (by first | exact .inl (by go_light; omega) | exact .inr (by decide)) hg1
        replace zX := zX.grownR hR.ids (by first | exact .inl (by go_light; omega) | exact .inr (by decide)) hg1
        (first | (replace zO := zO.grownR hR.ids (by first | exact .inl (by go_light; omega) | exact .inr (by decide)) hg1) | skip)
        (first | (replace zQ := zQ.grownR hR.ids (by first | exact .inl (by go_light; omega) | exact .inr (by decide)) hg1) | (replace zQ := zQ.grown hg5 hnQ))
        (first | (replace hZ2 := hZ2.grownR hR.ids (.inr (by decide)) hg1) | skip)
        replace zO := zO.grownI hg1 (zO.sep hNi (fun k hk => by have := (hR.ilt hk).1; go_light; omega))
        replace hNi := hNi'
        clear hNi'
        replace hw := below_grown hw hg1 hw.size (fun g' h => by go_light; have := (hR.ilt h).1; omega)
        replace hR := hR'
        clear hR'
        replace hS := HSK.out _ zG zX zQ
        refine hK.out _ _ (fun _ => hS) ?_
        clear hK K
        try simp only [pu]
        refine tkL 11 hS ?_
        try simp only [pu]
        refine late_one (i := 10) rfl (by kernel_rfl) (fun K hK => ?_)
        refine step_append _ rfl (.tmp 81) (.tmp 83) rfl sl_vals RVal.fair rfl rfl hR.lrow (Src.one (es := [.int .i64 pk, .int .i64 pn, .string ps, .slice E1 pi.length f1, .slice E2 pl.length f2]) (y := ValueD.mk pk pn ps pi pl) rfl (Ones.of_all rfl) (hR.apart2 (RVal.fair.keep HXr.out (by first | exact (((Keep.drew _ _).trans (Keep.alloc _ _ _)).trans (Keep.of_grown hg1 hn1)).trans (Keep.alloc _ _ _) | exact (((Keep.drew _ _).trans (Keep.alloc _ _ _)).trans (Keep.alloc _ _ _)).trans (Keep.of_grown hg1 hn1))) ?ap) hZ2.lies) (fun _ h => h.2) (by go_light; simp; omega) hR.hb ?_
        case ap =>
         rintro y ⟨hy1, hy2⟩
         refine ⟨hy1.1, fun e => ?_, hy1.2.2.1, hy1.2.2.2⟩
         rcases hv1 with h | h
         ·exact hy1.2.1 (h ▸ e)
         ·rw [h] at e
          have e' := Option.some.inj e
          simp at e'
          go_light
          omega
        intro v5 w5 ho5 hg5 hv5
        have hR' := hR.push_l ho5 hg5 hv5
        have hNl' := nb_grow hNl hv5 zO.kc
        replace zG := zG.grownR hR.l (by first | exact .inl (by go_light; omega) | exact .inr (by decide)) hg5
        replace zR := zR.grownR hR.l (by first | exact .inl (by go_light; omega) | exact .inr (by decide)) hg5
        replace zV := zV.grownR hR.l (by first | exact .inl (by go_light; omega) | exact .inr (by decide)) hg5
        replace zB := zB.grownR hR.l (by first | exact .inl (by go_light; omega) | exact .inr (by decide)) hg5
        replace zX := zX.grownR hR.l (by first | exact .inl (by go_light; omega) | exact .inr (by decide)) hg5
        (first | (replace zO := zO.grownR hR.l (by first | exact .inl (by go_light; omega) | exact .inr (by decide)) hg5) | skip)
        (first | (replace zQ := zQ.grownR hR.l (by first | exact .inl (by go_light; omega) | exact .inr (by decide)) hg5) | (replace zQ := zQ.grown hg5 hnQ))
        replace zO := zO.grownI hg5 (zO.sep hNl (fun k hk => by have := (hR.llt hk).1; go_light; omega))
        replace hNl := hNl'
        clear hNl'
        replace hw := below_grown hw hg5 hw.size (fun g' h => by go_light; have := (hR.llt h).1; omega)
        replace hR := hR'
        clear hR'
        replace hS := HSK.out _ zG zX zQ
        have fz3 := zG.frozen 3
        have cz3 := zG.cell 3
        have fz4 := zG.frozen 4
        have cz4 := zG.cell 4
        have lz := zG.lt
        simp only [List.getElem?_cons_zero, List.getElem?_cons_succ] at cz3 cz4
        obtain ⟨R1, p1, rfl, _⟩ := hR.ids.form
        obtain ⟨R2, p2, rfl, _⟩ := hR.l.form
        refine hK.out _ _ (fun _ => hS) ?_
        clear hK K
        try simp only [pu]
        refine late_one (i := 12) rfl (by kernel_rfl) (fun K hK => ?_)
        go_simp
        refine hK.out _ _ (fun h => absurd h (by decide)) ?_
        clear hK K
        try simp only [pu]
        refine late_one (i := 13) rfl (by kernel_rfl) (fun K hK => ?_)
        go_simp
        refine hK.out _ _ (fun h => absurd h (by decide)) ?_
        clear hK K
        try simp only [pu]
        refine late_one (i := 14) rfl (by kernel_rfl) (fun K hK => ?_)
        go_simp
        refine hK.out _ _ (fun h => absurd h (by decide)) ?_
        clear hK K
        try simp only [pu]
        refine late_done (by kernel_rfl) ?_ _
        simp only [List.length_append, List.length_map, List.length_cons, List.length_nil, Nat.zero_add] at hR
        replace hR := (hR.setCell 3 (.slice R1 (P0.length + Sj.length + 1) p1)).setCell 4 (.slice R2 (P0.length + Sj.length + 1) p2)
        replace zG := (zG.set_ 3 (.slice R1 (P0.length + Sj.length + 1) p1)).set_ 4 (.slice R2 (P0.length + Sj.length + 1) p2)
        simp only [List.set_cons_zero, List.set_cons_succ, List.length_append, List.length_map, List.length_cons, List.length_nil, Nat.zero_add] at zG
        replace zR := zR.far (p := ⟨(w1.heap.size + 1), 3, none⟩) (by first | (simp; done) | (simp; omega)) (.slice R1 (P0.length + Sj.length + 1) p1)
        replace zV := zV.far (p := ⟨(w1.heap.size + 1), 3, none⟩) (by first | (simp; done) | (simp; omega)) (.slice R1 (P0.length + Sj.length + 1) p1)
        replace zB := zB.far (p := ⟨(w1.heap.size + 1), 3, none⟩) (by first | (simp; done) | (simp; omega)) (.slice R1 (P0.length + Sj.length + 1) p1)
        replace zX := zX.far (p := ⟨(w1.heap.size + 1), 3, none⟩) (by first | (simp; done) | (simp; omega)) (.slice R1 (P0.length + Sj.length + 1) p1)
        replace zO := zO.far (p := ⟨(w1.heap.size + 1), 3, none⟩) (by first | (simp; done) | (simp; omega)) (.slice R1 (P0.length + Sj.length + 1) p1)
        replace zR := zR.far (p := ⟨(w1.heap.size + 1), 4, none⟩) (by first | (simp; done) | (simp; omega)) (.slice R2 (P0.length + Sj.length + 1) p2)
        replace zV := zV.far (p := ⟨(w1.heap.size + 1), 4, none⟩) (by first | (simp; done) | (simp; omega)) (.slice R2 (P0.length + Sj.length + 1) p2)
        replace zB := zB.far (p := ⟨(w1.heap.size + 1), 4, none⟩) (by first | (simp; done) | (simp; omega)) (.slice R2 (P0.length + Sj.length + 1) p2)
        replace zX := zX.far (p := ⟨(w1.heap.size + 1), 4, none⟩) (by first | (simp; done) | (simp; omega)) (.slice R2 (P0.length + Sj.length + 1) p2)
        replace zO := zO.far (p := ⟨(w1.heap.size + 1), 4, none⟩) (by first | (simp; done) | (simp; omega)) (.slice R2 (P0.length + Sj.length + 1) p2)
        replace hw := (hw.setCell (p := ⟨(w1.heap.size + 1), 3, none⟩) (by first | (simp; done) | (simp; omega)) (.slice R1 (P0.length + Sj.length + 1) p1)).setCell (p := ⟨(w1.heap.size + 1), 4, none⟩) (by first | (simp; done) | (simp; omega)) (.slice R2 (P0.length + Sj.length + 1) p2)
        clear hS fz3 cz3 fz4 cz4 lz hg5 hv5 ho5 hg1 hv1 ho1
        go_wp2_with fail
        go_roundw
        case rel => exact ⟨j + 1, _, _, by go_num, by go_light; omega, by rw [Hsel2.out]; simpa [Nat.add_assoc] using hR, zG, ⟨zR, zV, zB⟩, zX, zO, nb_len hNi, nb_len hNl, hw⟩
        case measure => go_light; simp [intOf]; omega
      ·--[R3
       go_simp
       have hZ2 := Box.newB hw 37 [.int .i64 pk, .int .i64 pn, .string ps, .slice E1 pi.length f1, .slice E2 pl.length f2]
       try simp only [World.size_alloc] at hZ2
       replace hR := hR.alloc (.cells [.int .i64 pk, .int .i64 pn, .string ps, .slice E1 pi.length f1, .slice E2 pl.length f2].toArray 37)
       replace zG := zG.alloc (.cells [.int .i64 pk, .int .i64 pn, .string ps, .slice E1 pi.length f1, .slice E2 pl.length f2].toArray 37)
       replace zR := zR.alloc (.cells [.int .i64 pk, .int .i64 pn, .string ps, .slice E1 pi.length f1, .slice E2 pl.length f2].toArray 37)
       replace zV := zV.alloc (.cells [.int .i64 pk, .int .i64 pn, .string ps, .slice E1 pi.length f1, .slice E2 pl.length f2].toArray 37)
       replace zB := zB.alloc (.cells [.int .i64 pk, .int .i64 pn, .string ps, .slice E1 pi.length f1, .slice E2 pl.length f2].toArray 37)
       replace zX := zX.alloc (.cells [.int .i64 pk, .int .i64 pn, .string ps, .slice E1 pi.length f1, .slice E2 pl.length f2].toArray 37)
       (first | (replace zO := zO.alloc (.cells [.int .i64 pk, .int .i64 pn, .string ps, .slice E1 pi.length f1, .slice E2 pl.length f2].toArray 37)) | skip)
       (first | (replace zQ := zQ.alloc (.cells [.int .i64 pk, .int .i64 pn, .string ps, .slice E1 pi.length f1, .slice E2 pl.length f2].toArray 37)) | (replace zQ := zQ.grown hg5 hnQ))
       (first | (replace hZ1 := hZ1.alloc (.cells [.int .i64 pk, .int .i64 pn, .string ps, .slice E1 pi.length f1, .slice E2 pl.length f2].toArray 37)) | skip)
       replace hw := hw.alloc hw.size (.cells [.int .i64 pk, .int .i64 pn, .string ps, .slice E1 pi.length f1, .slice E2 pl.length f2].toArray 37)
       replace hS := HSK.out _ zG zX zQ
       refine hK.out _ _ (fun _ => hS) ?_
       clear hK K
       try simp only [pu]
       refine late_one (i := 4) rfl (by kernel_rfl) (fun K hK => ?_)
       go_simp
       have hZ1 := Box.newB hw 3 [.int .i64 fid]
       try simp only [World.size_alloc] at hZ1
       replace hR := hR.alloc (.cells #[.int .i64 fid] 3)
       replace zG := zG.alloc (.cells #[.int .i64 fid] 3)
       replace zR := zR.alloc (.cells #[.int .i64 fid] 3)
       replace zV := zV.alloc (.cells #[.int .i64 fid] 3)
       replace zB := zB.alloc (.cells #[.int .i64 fid] 3)
       replace zX := zX.alloc (.cells #[.int .i64 fid] 3)
       (first | (replace zO := zO.alloc (.cells #[.int .i64 fid] 3)) | skip)
       (first | (replace zQ := zQ.alloc (.cells #[.int .i64 fid] 3)) | (replace zQ := zQ.grown hg5 hnQ))
       (first | (replace hZ2 := hZ2.alloc (.cells #[.int .i64 fid] 3)) | skip)
       replace hw := hw.alloc hw.size (.cells #[.int .i64 fid] 3)
       replace hS := HSK.out _ zG zX zQ
       refine hK.out _ _ (fun _ => hS) ?_
       clear hK K
       try simp only [pu]
       refine late_one (i := 5) rfl (by kernel_rfl) (fun K hK => ?_)
       refine step_append _ rfl (.tmp 75) (.tmp 78) rfl sl_ints RInt.fair rfl rfl hR.ids (Src.one (es := [.int .i64 fid]) (y := fid) rfl (Ones.of_all rfl) rfl hZ1.lies) (NoT.lt _) (by go_light; simp; omega) hR.hb ?_
       intro v1 wk1 ho1 hg1 hv1
       have hR' := hR.push_id ho1 hg1 hv1
       have hNi' := nb_grow hNi hv1 zO.kc
       replace zG := zG.grownR hR.ids (by first | exact .inl (by go_light; omega) | exact .inr (by decide)) hg1
       replace zR := zR.grownR hR.ids (by first | exact .inl (by go_light; omega) | exact .inr (by decide)) hg1
       replace zV := zV.grownR hR.ids (by first | exact .inl (by go_light; omega) | exact .inr (by decide)) hg1
       replace zB := zB.grownR hR.ids (by first | exact .inl (by go_light; omega) | exact .inr (by decide)) hg1
       replace zX := zX.grownR hR.ids (by first | exact .inl (by go_light; omega) | exact .inr (by decide)) hg1
       (first | (replace zO := zO.grownR hR.ids (by first | exact .inl (by go_light; omega) | exact .inr (by decide)) hg1) | skip)
       (first | (replace zQ := zQ.grownR hR.ids (by first | exact .inl (by go_light; omega) | exact .inr (by decide)) hg1) | (replace zQ := zQ.grown hg5 hnQ))
       (first | (replace hZ2 := hZ2.grownR hR.ids (.inr (by decide)) hg1) | skip)
       replace zO := zO.grownI hg1 (zO.sep hNi (fun k hk => by have := (hR.ilt hk).1; go_light; omega))
       replace hNi := hNi'
       clear hNi'
       replace hw := below_grown hw hg1 hw.size (fun g' h => by go_light; have := (hR.ilt h).1; omega)
       replace hR := hR'
       clear hR'
       replace hS := HSK.out _ zG zX zQ
       refine hK.out _ _ (fun _ => hS) ?_
       clear hK K
       try simp only [pu]
       refine tkL 11 hS ?_
       try simp only [pu]
       refine late_one (i := 10) rfl (by kernel_rfl) (fun K hK => ?_)
       refine step_append _ rfl (.tmp 81) (.tmp 83) rfl sl_vals RVal.fair rfl rfl hR.lrow (Src.one (es := [.int .i64 pk, .int .i64 pn, .string ps, .slice E1 pi.length f1, .slice E2 pl.length f2]) (y := ValueD.mk pk pn ps pi pl) rfl (Ones.of_all rfl) (hR.apart2 (RVal.fair.keep HXr.out (by first | exact (((Keep.drew _ _).trans (Keep.alloc _ _ _)).trans (Keep.of_grown hg1 hn1)).trans (Keep.alloc _ _ _) | exact (((Keep.drew _ _).trans (Keep.alloc _ _ _)).trans (Keep.alloc _ _ _)).trans (Keep.of_grown hg1 hn1))) ?ap) hZ2.lies) (fun _ h => h.2) (by go_light; simp; omega) hR.hb ?_
       case ap =>
        rintro y ⟨hy1, hy2⟩
        refine ⟨hy1.1, fun e => ?_, hy1.2.2.1, hy1.2.2.2⟩
        rcases hv1 with h | h
        ·exact hy1.2.1 (h ▸ e)
        ·rw [h] at e
         have e' := Option.some.inj e
         simp at e'
         go_light
         omega
       intro v5 w5 ho5 hg5 hv5
       have hR' := hR.push_l ho5 hg5 hv5
       have hNl' := nb_grow hNl hv5 zO.kc
       replace zG := zG.grownR hR.l (by first | exact .inl (by go_light; omega) | exact .inr (by decide)) hg5
       replace zR := zR.grownR hR.l (by first | exact .inl (by go_light; omega) | exact .inr (by decide)) hg5
       replace zV := zV.grownR hR.l (by first | exact .inl (by go_light; omega) | exact .inr (by decide)) hg5
       replace zB := zB.grownR hR.l (by first | exact .inl (by go_light; omega) | exact .inr (by decide)) hg5
       replace zX := zX.grownR hR.l (by first | exact .inl (by go_light; omega) | exact .inr (by decide)) hg5
       (first | (replace zO := zO.grownR hR.l (by first | exact .inl (by go_light; omega) | exact .inr (by decide)) hg5) | skip)
       (first | (replace zQ := zQ.grownR hR.l (by first | exact .inl (by go_light; omega) | exact .inr (by decide)) hg5) | (replace zQ := zQ.grown hg5 hnQ))
       replace zO := zO.grownI hg5 (zO.sep hNl (fun k hk => by have := (hR.llt hk).1; go_light; omega))
       replace hNl := hNl'
       clear hNl'
       replace hw := below_grown hw hg5 hw.size (fun g' h => by go_light; have := (hR.llt h).1; omega)
       replace hR := hR'
       clear hR'
       replace hS := HSK.out _ zG zX zQ
       have fz3 := zG.frozen 3
       have cz3 := zG.cell 3
       have fz4 := zG.frozen 4
       have cz4 := zG.cell 4
       have lz := zG.lt
       simp only [List.getElem?_cons_zero, List.getElem?_cons_succ] at cz3 cz4
       obtain ⟨R1, p1, rfl, _⟩ := hR.ids.form
       obtain ⟨R2, p2, rfl, _⟩ := hR.l.form
       refine hK.out _ _ (fun _ => hS) ?_
       clear hK K
       try simp only [pu]
       refine late_one (i := 12) rfl (by kernel_rfl) (fun K hK => ?_)
       go_simp
       refine hK.out _ _ (fun h => absurd h (by decide)) ?_
       clear hK K
       try simp only [pu]
       refine late_one (i := 13) rfl (by kernel_rfl) (fun K hK => ?_)
       go_simp
       refine hK.out _ _ (fun h => absurd h (by decide)) ?_
       clear hK K
       try simp only [pu]
       refine late_one (i := 14) rfl (by kernel_rfl) (fun K hK => ?_)
       go_simp
       refine hK.out _ _ (fun h => absurd h (by decide)) ?_
       clear hK K
       try simp only [pu]
       refine late_done (by kernel_rfl) ?_ _
       simp only [List.length_append, List.length_map, List.length_cons, List.length_nil, Nat.zero_add] at hR
       replace hR := (hR.setCell 3 (.slice R1 (P0.length + Sj.length + 1) p1)).setCell 4 (.slice R2 (P0.length + Sj.length + 1) p2)
       replace zG := (zG.set_ 3 (.slice R1 (P0.length + Sj.length + 1) p1)).set_ 4 (.slice R2 (P0.length + Sj.length + 1) p2)
       simp only [List.set_cons_zero, List.set_cons_succ, List.length_append, List.length_map, List.length_cons, List.length_nil, Nat.zero_add] at zG
       replace zR := zR.far (p := ⟨(w1.heap.size + 1), 3, none⟩) (by first | (simp; done) | (simp; omega)) (.slice R1 (P0.length + Sj.length + 1) p1)
       replace zV := zV.far (p := ⟨(w1.heap.size + 1), 3, none⟩) (by first | (simp; done) | (simp; omega)) (.slice R1 (P0.length + Sj.length + 1) p1)
       replace zB := zB.far (p := ⟨(w1.heap.size + 1), 3, none⟩) (by first | (simp; done) | (simp; omega)) (.slice R1 (P0.length + Sj.length + 1) p1)
       replace zX := zX.far (p := ⟨(w1.heap.size + 1), 3, none⟩) (by first | (simp; done) | (simp; omega)) (.slice R1 (P0.length + Sj.length + 1) p1)
       replace zO := zO.far (p := ⟨(w1.heap.size + 1), 3, none⟩) (by first | (simp; done) | (simp; omega)) (.slice R1 (P0.length + Sj.length + 1) p1)
       replace zR := zR.far (p := ⟨(w1.heap.size + 1), 4, none⟩) (by first | (simp; done) | (simp; omega)) (.slice R2 (P0.length + Sj.length + 1) p2)
       replace zV := zV.far (p := ⟨(w1.heap.size + 1), 4, none⟩) (by first | (simp; done) | (simp; omega)) (.slice R2 (P0.length + Sj.length + 1) p2)
       replace zB := zB.far (p := ⟨(w1.heap.size + 1), 4, none⟩) (by first | (simp; done) | (simp; omega)) (.slice R2 (P0.length + Sj.length + 1) p2)
       replace zX := zX.far (p := ⟨(w1.heap.size + 1), 4, none⟩) (by first | (simp; done) | (simp; omega)) (.slice R2 (P0.length + Sj.length + 1) p2)
       replace zO := zO.far (p := ⟨(w1.heap.size + 1), 4, none⟩) (by first | (simp; done) | (simp; omega)) (.slice R2 (P0.length + Sj.length + 1) p2)
       replace hw := (hw.setCell (p := ⟨(w1.heap.size + 1), 3, none⟩) (by first | (simp; done) | (simp; omega)) (.slice R1 (P0.length + Sj.length + 1) p1)).setCell (p := ⟨(w1.heap.size + 1), 4, none⟩) (by first | (simp; done) | (simp; omega)) (.slice R2 (P0.length + Sj.length + 1) p2)
       clear hS fz3 cz3 fz4 cz4 lz hg5 hv5 ho5 hg1 hv1 ho1
       go_wp2_with fail
       go_roundw
       case rel => exact ⟨j + 1, _, _, by go_num, by go_light; omega, by rw [Hsel2.out]; simpa [Nat.add_assoc] using hR, zG, ⟨zR, zV, zB⟩, zX, zO, nb_len hNi, nb_len hNl, hw⟩
       case measure => go_light; simp [intOf]; omega
     ·--[JEND
      obtain rfl : j = Lz.length := by omega
      rw [List.take_length, ← Hst.out] at hR
      clear zO hNi hNl zX
      go_wp2_with fail
      go_roundw
      case rel => exact ⟨n + 1, _, _, by go_num, by omega, hR, zG, ⟨zR, zV, zB⟩, hw⟩
      case measure => simp [intOf]; omega
  ·--[END
   obtain rfl : n = ty.fields.length := by omega
   have hle := HLen.out _ hn
   have hv0 := Hpv.out
   obtain ⟨L, hL⟩ : ∃ L, L = projTo b d ty ids l ty.fields.length := ⟨_, rfl⟩
   rw [← hL] at hro hle hv0
   have hv2 : r = .mk 2 0 ⟨#[]⟩ (L.map (·.1)) (L.map (·.2)) := hv0
   obtain ⟨R1, p1, rfl, _⟩ := hro.ids.form
   obtain ⟨R2, p2, rfl, _⟩ := hro.l.form
   have hrd : RVal (fun y => w1.heap.size + 1 + 1 ≤ y ∨ (S' y ∧ y < w.heap.size)) wr [.int .i64 2, .int .i64 0, .string ⟨#[]⟩, .slice R1 (L.map (·.1)).length p1, .slice R2 (L.map (·.2)).length p2] r := by
    rw [hv2]
    exact hro.read (S := (fun y => w1.heap.size + 1 + 1 ≤ y ∨ (S' y ∧ y < w.heap.size))) (fun y hy => .inl hy) (fun y hy => hy) (by rw [List.length_map]; omega) (by rw [List.length_map]; omega) 2 0 ⟨#[]⟩
   generalize (L.map (·.1)).length = L1 at *
   generalize (L.map (·.2)).length = L2 at *
   obtain ⟨e0, e1, e2, e3, e4⟩ := zG.five
   obtain ⟨r0, r1, r2, r3, r4⟩ := zR.five
   have hlg := zG.lt
   have g0 := zR.frozen 0
   have g1 := zR.frozen 1
   have g2 := zR.frozen 2
   have g3 := zR.frozen 3
   have g4 := zR.frozen 4
   have hlr := zR.lt
   have Hrd := Lib.hid hrd
   clear hv0 hv2 hrd hro hle hL zV zB
   go_wp2_with fail
   change bodyPost _ _ _ _ _ (setCells wr (w.heap.size + 1 + 1) 0 [.int .i64 2, .int .i64 0, .string ⟨#[]⟩, .slice R1 L1 p1, .slice R2 L2 p2])
   have hb5 := zR.setCells [.int .i64 2, .int .i64 0, .string ⟨#[]⟩, .slice R1 L1 p1, .slice R2 L2 p2] rfl
   have hw5 := below_setCells (g := w.heap.size + 1 + 1) (by go_light; omega) [.int .i64 2, .int .i64 0, .string ⟨#[]⟩, .slice R1 L1 p1, .slice R2 L2 p2] 0 _ hb
   have hrd2 : RVal (Un S' w) (setCells wr (w.heap.size + 1 + 1) 0 [.int .i64 2, .int .i64 0, .string ⟨#[]⟩, .slice R1 L1 p1, .slice R2 L2 p2]) [.int .i64 2, .int .i64 0, .string ⟨#[]⟩, .slice R1 L1 p1, .slice R2 L2 p2] r :=
    RVal.fair.mono (RVal.fair.keep Hrd.out (Keep.setCells (by rintro (h | h) <;> omega) _ _ _)) (fun y hy _ => hy.elim (fun h => .inr (by go_light; omega)) (fun h => .inl h.1))
   generalize setCells wr (w.heap.size + 1 + 1) 0 _ = W at hb5 hw5 hrd2 ⊢
   exact bodyPost_ret (seen_results hb5 rfl) rfl ⟨_, rfl, hrd2, hw5⟩
theorem seen_any (S : Nat → Prop) (vb : Value) (b : BookD) (hg : goodF b = 0) : ∀ (d : Nat), SeenAt S vb b d
 | 0 => by
  rintro S' name cs ⟨kind, nn, s, ids, l⟩ w hd
  rw [depthV] at hd
  omega
 | d + 1 => seen_succ S vb b hg d (seen_any S vb b hg d)
end Go.Proofs.YtfidfakcbjoilaaGreatDoor
namespace Go.Proofs.YtfidfakcbjoilaaGreatDoor
open Go.RowKit
theorem Projected_results {W : World} {a : Act} {g : Nat} {c0 c1 c2 c3 c4 : Value} {n : Int} (hb : Box W g 37 [c0, c1, c2, c3, c4]) (h4 : a.tmps.getD 8 undef = .pointer (some ⟨g, 0, none⟩)) (h5 : a.tmps.getD 9 undef = .int .i64 n) :
  (results Tryz.f13 a.tmps).run Tryz.prog W = .ok (.tuple #[.agg #[c0, c1, c2, c3, c4], .int .i64 n]) W := by
 obtain ⟨e0, e1, e2, e3, e4⟩ := hb.five
 simp only [Array.getD_eq_getD_getElem?] at h4 h5
 simp [results, Tryz.results13, go_sem, h4, h5, e0, e1, e2, e3, e4]
theorem projected_any (S S' : Nat → Prop) (vw vr : Value) (bw br : BookD) (name : ByteArray) (cs : List Value) (v : ValueD) (w : World) (hb1 : RSl 5 96 RType S w [vw] bw) (hb2 : RSl 5 96 RType S w [vr] br) (hr : RVal S' w cs v) (hM : MaxL w) (o1 : BookOk bw) (o2 : BookOk br) (s1 : BookSmall bw) (s2 : BookSmall br) (hok : okV v)
  (hd : depthV v ≤ 4611686018427387904) (hc : countV v ≤ 4611686018427387904) :
  Calls Tryz.prog 13 #[.agg #[vw], .agg #[vr], .string name, .agg cs.toArray] w (ProjPost S' w (projF bw br name v)) := by
 obtain ⟨AW, cw, rfl, -, -⟩ := hb1.form
 obtain ⟨AR, cr, rfl, -, -⟩ := hb2.form
 obtain ⟨r, hrr⟩ : ∃ r, r = projF bw br name v := ⟨_, rfl⟩
 have hr0 : r = if bothF bw br name ≠ 0 then (.zero, bothF bw br name) else if TypedF bw name v ≠ 0 then (.zero, TypedF bw name v) else if (flawsF bw br name).1 ≠ [] then (.zero, 8)
  else if smallF (projV br (depthV v) (typeOf br name) v) = false then (.zero, 7) else (projV br (depthV v) (typeOf br name) v, 0) := hrr
 rw [← hrr]
 have hty := fun W (h : Below w.heap.size w W) => isTyped_any S S' _ bw name cs v W ((RSl.fair RType.fair).below hb1 h) (RVal.fair.below hr h) (hM.below h) o1 s1 hok hd hc
 have hfl := fun W (h : Below w.heap.size w W) => flawsOf_any S _ _ bw br name W ((RSl.fair RType.fair).below hb1 h) ((RSl.fair RType.fair).below hb2 h) (hM.below h) o1 o2 s1 s2
 have hpr : bothF bw br name = 0 → TypedF bw name v = 0 → (flawsF bw br name).1 = [] → (∀ W (_ : Below w.heap.size w W), Calls Tryz.prog 34 #[.agg #[.slice AR br.length cr], .string name, .agg cs.toArray] W (ValUn (fun y => S' y ∧ y < w.heap.size) W (projV br (depthV v) (typeOf br name) v))) ∧ countV (projV br (depthV v) (typeOf br name) v) ≤ 240012 ∧ depthV (projV br (depthV v) (typeOf br name) v) ≤ 29 := fun h1 h2 h3 => by
  obtain ⟨q1, q2, q3, q4⟩ := bothF_ok h1
  obtain ⟨g1, g2, g3, g4⟩ := TypedF_ok h2
  refine ⟨fun W h => ?_, proj_size h1 h3 h2⟩
  obtain ⟨t, _, e2, hm, _, he⟩ := noneB_type q3
  exact seen_any S _ br q2 (depthV v) (fun y => S' y ∧ y < w.heap.size) name cs v W (Nat.le_refl _) ((RSl.fair RType.fair).below hb2 h) (RVal.fair.below (RVal.fair.mono hr (fun y hy hl => ⟨hy, hl⟩)) h) q4 (even_typed q1 _ v t (good_msg q1 hm he) (by rw [← e2]; exact g4)) (small_iff.1 g3).2
 have hce : (flawsF bw br name).2 = bothF bw br name := by
  unfold flawsF
  split
  ·rfl
  ·next h => exact (by simpa using h : bothF bw br name = 0).symm
 obtain ⟨bo, hbo0⟩ : ∃ x, x = bothF bw br name := ⟨_, rfl⟩
 obtain ⟨ty, hty0⟩ : ∃ x, x = TypedF bw name v := ⟨_, rfl⟩
 obtain ⟨fl, hfl0⟩ : ∃ x, x = flawsF bw br name := ⟨_, rfl⟩
 obtain ⟨pv, hpv0⟩ : ∃ x, x = projV br (depthV v) (typeOf br name) v := ⟨_, rfl⟩
 rw [← hbo0] at hr0 hpr hce
 rw [← hty0] at hty hr0 hpr
 rw [← hfl0] at hfl hr0 hpr hce
 rw [← hpv0] at hr0 hpr
 have Hr := Lib.hid hr0
 have Hty := Lib.hid hty
 have Hpr := Lib.hid hpr
 obtain ⟨kind, n, s, ids, l⟩ := v
 obtain ⟨I1, d1, I2, d2, rfl, -, -⟩ := hr.parts
 obtain ⟨f, c⟩ := fl
 dsimp only at hce
 subst hce
 have Hfl := Lib.hid hfl
 obtain ⟨x1, x2, x3, x4, x5⟩ := boxes4 w [.slice AW bw.length cw] [.slice AR br.length cr] [.int .i64 kind, .int .i64 n, .string s, .slice I1 ids.length d1, .slice I2 l.length d2] [.int .i64 0, .int .i64 0, .string ⟨#[]⟩, .slice none 0 0, .slice none 0 0] 24 24 37 37
 clear hb1 hb2 hr hM o1 o2 s1 s2 hok hd hc hrr hr0 hty hfl hpr hbo0 hty0 hfl0 hpv0
 have z1 := x1.cell 0
 have z2 := x2.cell 0
 have l1 := x1.lt
 have l2 := x2.lt
 go_enter Tryz.func13, Tryz.ntmps13
 go_wp2_with fail
 refine (Hfl.out _ x5).mono ?_
 rintro e w1 ⟨vf, rfl, hrf, hb1⟩
 obtain ⟨AF, cf, rfl, -, -⟩ := hrf.form
 have y1 := x1.below hb1 x1.lt
 have y2 := x2.below hb1 x2.lt
 have y3 := x3.below hb1 x3.lt
 have y4 := x4.below hb1 x4.lt
 have hw1 := below_via x5 hb1 x5.size
 clear x1 x2 x3 x4 x5 hb1 z1 z2 l1 l2 Hfl hrf
 dsimp only at Hr Hpr ⊢
 by_cases hbo : c = 0
 ·subst hbo
  rw [if_neg (by simp)] at Hr
  have z1 := y1.cell 0
  have l1 := y1.lt
  obtain ⟨u0, u1, u2, u3, u4⟩ := y3.five
  have l3 := y3.lt
  go_wp2_with fail
  refine (Hty.out _ hw1).mono ?_
  rintro e w2 ⟨rfl, hb2⟩
  clear z1 l1 u0 u1 u2 u3 u4 l3
  have v1 := y1.below hb2 y1.lt
  have v2 := y2.below hb2 y2.lt
  have v3 := y3.below hb2 y3.lt
  have v4 := y4.below hb2 y4.lt
  have hw2 := below_via hw1 hb2 hw1.size
  clear y1 y2 y3 y4 hb2 hw1 Hty
  by_cases hty : ty = 0
  ·subst hty
   rw [if_neg (by simp)] at Hr
   by_cases hf : f = []
   ·subst hf
    rw [if_neg (by simp)] at Hr
    have Hrun := Lib.hid (Hpr.out (by simp) (by simp) (by simp))
    have z2 := v2.cell 0
    have l2 := v2.lt
    obtain ⟨u0, u1, u2, u3, u4⟩ := v3.five
    have l3 := v3.lt
    clear Hpr
    go_wp2_with fail
    refine (Hrun.out.1 _ hw2).mono ?_
    rintro e w4 ⟨cs4, rfl, hr4, hb4⟩
    clear z2 l2 u0 u1 u2 u3 u4 l3
    obtain ⟨pk, pn, ps, pi, pl⟩ := pv
    obtain ⟨E1, f1, E2, f2, rfl, -, -⟩ := hr4.parts
    have hr5 := RVal.fair.keep hr4 (Keep.alloc _ w4 (.cells [.int .i64 pk, .int .i64 pn, .string ps, .slice E1 pi.length f1, .slice E2 pl.length f2].toArray 37))
    have hw4 := below_via hw2 hb4 hw2.size
    have hw5 := hw4.alloc hw4.size (.cells [.int .i64 pk, .int .i64 pn, .string ps, .slice E1 pi.length f1, .slice E2 pl.length f2].toArray 37)
    have zp : Box (w4.alloc (.cells [.int .i64 pk, .int .i64 pn, .string ps, .slice E1 pi.length f1, .slice E2 pl.length f2].toArray 37)) w4.heap.size 37 [.int .i64 pk, .int .i64 pn, .string ps, .slice E1 pi.length f1, .slice E2 pl.length f2] := Box.new w4 _ _
    have y4 := (v4.below hb4 v4.lt).alloc (.cells [.int .i64 pk, .int .i64 pn, .string ps, .slice E1 pi.length f1, .slice E2 pl.length f2].toArray 37)
    have hR8 : ¬ Un (fun y => S' y ∧ y < w.heap.size) w2 (w.heap.size + 1 + 1 + 1) := by
     have := v4.lt
     rintro (h | h)
     ·have := h.2; omega
     ·omega
    have Hup := Lib.hid (fun y (hy : Un (fun y => S' y ∧ y < w.heap.size) w2 y) => (show Un S' w y from hy.elim (fun h => .inl h.1) (fun h => .inr (Nat.le_trans hw2.size h))))
    have hnp : (w.heap.size + 1 + 1 + 1) < w4.heap.size := (v4.below hb4 v4.lt).lt
    have hsz := Lib.hid (fun W (h : RVal (Un (fun y => S' y ∧ y < w.heap.size) w2) W [.int .i64 pk, .int .i64 pn, .string ps, .slice E1 pi.length f1, .slice E2 pl.length f2] (.mk pk pn ps pi pl)) => isSmall_any _ _ (.mk pk pn ps pi pl) W h (by have := Hrun.out.2; omega) (by have := Hrun.out.2; omega))
    have Hr6 := Lib.hid hr5
    obtain ⟨sm, hsm⟩ : ∃ x, x = smallF (.mk pk pn ps pi pl) := ⟨_, rfl⟩
    rw [← hsm] at Hr hsz
    obtain ⟨c0, c1, c2, c3, c4⟩ := zp.five
    have lp := zp.lt
    clear hr4 hr5 hb4 v1 v2 v3 v4 hw2 hw4 hsm Hrun
    go_upto_region 10 with fail
    generalize w4.heap.size = P at zp hnp c0 c1 c2 c3 c4 lp ⊢
    generalize w4.alloc _ = W4 at zp y4 hw5 Hr6 c0 c1 c2 c3 c4 lp ⊢
    go_wp2_with fail
    refine (hsz.out _ Hr6.out).mono ?_
    rintro e w6 ⟨rfl, hb6⟩
    have zp6 := zp.below hb6 zp.lt
    have v6 := y4.below hb6 y4.lt
    have hw6 := below_via hw5 hb6 hw5.size
    have Hr7 := Lib.hid (RVal.fair.below Hr6.out hb6)
    clear c0 c1 c2 c3 c4 lp zp y4 hw5 Hr6 hb6 hsz
    cases sm with
    | true =>
     have Hno : Hid (r = (.mk pk pn ps pi pl, 0)) := by show _ = _; rw [Hr.out, if_neg (by simp)]
     obtain ⟨c0, c1, c2, c3, c4⟩ := zp6.five
     have lp := zp6.lt
     obtain ⟨r0, r1, r2, r3, r4⟩ := v6.five
     have g0 := v6.frozen 0
     have g1 := v6.frozen 1
     have g2 := v6.frozen 2
     have g3 := v6.frozen 3
     have g4 := v6.frozen 4
     have hlr := v6.lt
     go_wp2_with fail
     change bodyPost _ _ _ _ _ (setCells w6 (w.heap.size + 1 + 1 + 1) 0 [.int .i64 pk, .int .i64 pn, .string ps, .slice E1 pi.length f1, .slice E2 pl.length f2])
     have hb5 := v6.setCells [.int .i64 pk, .int .i64 pn, .string ps, .slice E1 pi.length f1, .slice E2 pl.length f2] rfl
     have hw7 := below_setCells (g := (w.heap.size + 1 + 1 + 1)) (by go_light; omega) [.int .i64 pk, .int .i64 pn, .string ps, .slice E1 pi.length f1, .slice E2 pl.length f2] 0 _ hw6
     have hrd : RVal (Un S' w) (setCells w6 (w.heap.size + 1 + 1 + 1) 0 [.int .i64 pk, .int .i64 pn, .string ps, .slice E1 pi.length f1, .slice E2 pl.length f2]) [.int .i64 pk, .int .i64 pn, .string ps, .slice E1 pi.length f1, .slice E2 pl.length f2] (.mk pk pn ps pi pl) := RVal.fair.mono (RVal.fair.keep Hr7.out (Keep.setCells hR8 _ _ _)) (fun y hy _ => Hup.out y hy)
     generalize setCells w6 (w.heap.size + 1 + 1 + 1) 0 _ = W5 at hb5 hw7 hrd ⊢
     rw [Hno.out]
     exact bodyPost_ret (Projected_results hb5 rfl rfl) rfl ⟨_, rfl, hrd, hw7⟩
    | false =>
     have Hno : Hid (r = (.zero, 7)) := by show _ = _; rw [Hr.out, if_pos rfl]
     obtain ⟨r0, r1, r2, r3, r4⟩ := v6.five
     have g0 := v6.frozen 0
     have g1 := v6.frozen 1
     have g2 := v6.frozen 2
     have g3 := v6.frozen 3
     have g4 := v6.frozen 4
     have hlr := v6.lt
     go_wp2_with fail
     change bodyPost _ _ _ _ _ (setCells w6 (w.heap.size + 1 + 1 + 1) 0 [.int .i64 0, .int .i64 0, .string ⟨#[]⟩, .slice none 0 0, .slice none 0 0])
     have hb5 := v6.setCells [.int .i64 0, .int .i64 0, .string ⟨#[]⟩, .slice none 0 0, .slice none 0 0] rfl
     have hw5 := below_setCells (g := (w.heap.size + 1 + 1 + 1)) (by go_light; omega) [.int .i64 0, .int .i64 0, .string ⟨#[]⟩, .slice none 0 0, .slice none 0 0] 0 _ hw6
     generalize setCells w6 (w.heap.size + 1 + 1 + 1) 0 _ = W5 at hb5 hw5 ⊢
     rw [Hno.out]
     exact bodyPost_ret (Projected_results hb5 rfl rfl) rfl ⟨_, rfl, RVal.zero, hw5⟩
   ·have Hno : Hid (r = (.zero, 8)) := by show _ = _; rw [Hr.out, if_pos hf]
    have hfb : 0 < f.length := List.length_pos_iff.2 hf
    clear hf
    obtain ⟨r0, r1, r2, r3, r4⟩ := v4.five
    have g0 := v4.frozen 0
    have g1 := v4.frozen 1
    have g2 := v4.frozen 2
    have g3 := v4.frozen 3
    have g4 := v4.frozen 4
    have hlr := v4.lt
    go_wp2_with fail
    change bodyPost _ _ _ _ _ (setCells w2 (w.heap.size + 1 + 1 + 1) 0 [.int .i64 0, .int .i64 0, .string ⟨#[]⟩, .slice none 0 0, .slice none 0 0])
    have hb5 := v4.setCells [.int .i64 0, .int .i64 0, .string ⟨#[]⟩, .slice none 0 0, .slice none 0 0] rfl
    have hw5 := below_setCells (g := (w.heap.size + 1 + 1 + 1)) (by go_light; omega) [.int .i64 0, .int .i64 0, .string ⟨#[]⟩, .slice none 0 0, .slice none 0 0] 0 _ hw2
    generalize setCells w2 (w.heap.size + 1 + 1 + 1) 0 _ = W5 at hb5 hw5 ⊢
    rw [Hno.out]
    exact bodyPost_ret (Projected_results hb5 rfl rfl) rfl ⟨_, rfl, RVal.zero, hw5⟩
  ·have Hno : Hid (r = (.zero, ty)) := by show _ = _; rw [Hr.out, if_pos hty]
   have hcb : (ty != 0) = true := by simpa using hty
   clear hty
   obtain ⟨r0, r1, r2, r3, r4⟩ := v4.five
   have g0 := v4.frozen 0
   have g1 := v4.frozen 1
   have g2 := v4.frozen 2
   have g3 := v4.frozen 3
   have g4 := v4.frozen 4
   have hlr := v4.lt
   go_wp2_with fail
   change bodyPost _ _ _ _ _ (setCells w2 (w.heap.size + 1 + 1 + 1) 0 [.int .i64 0, .int .i64 0, .string ⟨#[]⟩, .slice none 0 0, .slice none 0 0])
   have hb5 := v4.setCells [.int .i64 0, .int .i64 0, .string ⟨#[]⟩, .slice none 0 0, .slice none 0 0] rfl
   have hw5 := below_setCells (g := (w.heap.size + 1 + 1 + 1)) (by go_light; omega) [.int .i64 0, .int .i64 0, .string ⟨#[]⟩, .slice none 0 0, .slice none 0 0] 0 _ hw2
   generalize setCells w2 (w.heap.size + 1 + 1 + 1) 0 _ = W5 at hb5 hw5 ⊢
   rw [Hno.out]
   exact bodyPost_ret (Projected_results hb5 rfl rfl) rfl ⟨_, rfl, RVal.zero, hw5⟩
 ·have Hno : Hid (r = (.zero, c)) := by show _ = _; rw [Hr.out, if_pos hbo]
  have hcb : (c != 0) = true := by simpa using hbo
  clear hbo
  obtain ⟨r0, r1, r2, r3, r4⟩ := y4.five
  have g0 := y4.frozen 0
  have g1 := y4.frozen 1
  have g2 := y4.frozen 2
  have g3 := y4.frozen 3
  have g4 := y4.frozen 4
  have hlr := y4.lt
  go_wp2_with fail
  change bodyPost _ _ _ _ _ (setCells w1 (w.heap.size + 1 + 1 + 1) 0 [.int .i64 0, .int .i64 0, .string ⟨#[]⟩, .slice none 0 0, .slice none 0 0])
  have hb5 := y4.setCells [.int .i64 0, .int .i64 0, .string ⟨#[]⟩, .slice none 0 0, .slice none 0 0] rfl
  have hw5 := below_setCells (g := (w.heap.size + 1 + 1 + 1)) (by go_light; omega) [.int .i64 0, .int .i64 0, .string ⟨#[]⟩, .slice none 0 0, .slice none 0 0] 0 _ hw1
  generalize setCells w1 (w.heap.size + 1 + 1 + 1) 0 _ = W5 at hb5 hw5 ⊢
  rw [Hno.out]
  exact bodyPost_ret (Projected_results hb5 rfl rfl) rfl ⟨_, rfl, RVal.zero, hw5⟩
theorem newValP {B : Nat} {a w : World} (_ : Below B a w) : Box (w.alloc (.cells #[.int .i64 0, .int .i64 0, .string ⟨#[]⟩, .slice none 0 0, .slice none 0 0] 37)) w.heap.size 37 [.int .i64 0, .int .i64 0, .string ⟨#[]⟩, .slice none 0 0, .slice none 0 0] := Box.new _ _ _
theorem val_ne {W W' : World} {g : Nat} {t : TypeId} {cs' cs : List Value} {v : ValueD} (hG : Box W g t cs') (h : RVal (New W) W' cs v) : RVal (fun y => y ≠ g) W' cs v := RVal.fair.mono h (fun y hy _ e => by have := hG.lt; have hy' : W.heap.size ≤ y := hy; omega)
theorem un_ne {W W' : World} {g : Nat} {t : TypeId} {cs' cs : List Value} {v : ValueD} (hG : Box W g t cs') (h : RVal (Un (fun y => y ≠ g) W) W' cs v) : RVal (fun y => y ≠ g) W' cs v := RVal.fair.mono h (fun y hy _ => hy.elim id (fun hy e => by have := hG.lt; have hy' : W.heap.size ≤ y := hy; omega))
theorem val_true {S : Nat → Prop} {W : World} {cs : List Value} {v : ValueD} (h : RVal S W cs v) : RVal (fun _ => True) W cs v := RVal.fair.mono h (fun _ _ _ => trivial)
theorem val_alloc {S : Nat → Prop} {W : World} {cs : List Value} {v : ValueD} (o : Obj) (h : RVal S W cs v) : RVal (fun y => y ≠ W.heap.size) (W.alloc o) cs v := RVal.fair.keep (RVal.fair.mono h (fun y _ hl => by omega)) (Keep.alloc _ _ _)
theorem fin_val {B : Nat} {a W : World} {g : Nat} {zs cs : List Value} {v : ValueD} (hG : Box W g 37 zs) (h : RVal (fun y => y ≠ g) W cs v) (hl : cs.length = zs.length) (hB : Below B a W) (hg : B ≤ g) :
  Box (setCells W g 0 cs) g 37 cs ∧ RVal (fun _ => True) (setCells W g 0 cs) cs v ∧ Below B a (setCells W g 0 cs) :=
 ⟨hG.setCells cs hl, val_true (RVal.fair.keep h (Keep.setCells (by simp) _ _ _)), below_setCells hg cs 0 _ hB⟩
theorem copied {α : Type} {R : Rel α} (hR : Fair R) {a W W' : World} {cs : List Value} {x : α} (hB : Below a.heap.size a W) (h : R (New W) W' cs x) : R (New a) W' cs x := hR.mono h fun y hy _ => Nat.le_trans hB.size hy
theorem compatProjects_any (S S' : Nat → Prop) (vw vr : Value) (bw br : BookD) (name : ByteArray) (cs : List Value) (v : ValueD) (w : World) (hb1 : RSl 5 96 RType S w [vw] bw) (hb2 : RSl 5 96 RType S w [vr] br) (hr : RVal S' w cs v) (hW : Words w) (hM : MaxL w) (o1 : BookOk bw) (o2 : BookOk br) (s1 : BookSmall bw) (s2 : BookSmall br) (hok : okV v)
  (hd : depthV v ≤ 4611686018427387904) (hc : countV v ≤ 4611686018427387904) :
  Calls Tryz.prog 4 #[.agg #[vw], .agg #[vr], .string name, .agg cs.toArray] w (Ret w (.bool true)) := by
 obtain ⟨AW, cw, rfl, -, -⟩ := hb1.form
 obtain ⟨AR, cr, rfl, -, -⟩ := hb2.form
 have H1 := Lib.hid hb1
 have H2 := Lib.hid hb2
 have HV := Lib.hid hr
 have HW := Lib.hid hW
 have HPD := Lib.hid (fun W (h : Below w.heap.size w W) => projected_any S S' _ _ bw br name cs v W ((RSl.fair RType.fair).below hb1 h) ((RSl.fair RType.fair).below hb2 h) (RVal.fair.below hr h) (hM.below h) o1 o2 s1 s2 hok hd hc)
 have HPJ0 := Lib.hid (fun (S S' : Nat → Prop) (A1 A2 : Option Addr) (c1 c2 : Nat) (cs : List Value) W (h : Below w.heap.size w W) (q1 : RSl 5 96 RType S W [.slice A1 bw.length c1] bw) (q2 : RSl 5 96 RType S W [.slice A2 br.length c2] br) (q3 : RVal S' W cs v) => project_any S S' _ _ bw br name cs v W q1 q2 q3 (hW.below h) o1 o2 hok hd hc)
 obtain ⟨p, hp⟩ : ∃ p, p = projF bw br name v := ⟨_, rfl⟩
 rw [← hp] at HPD HPJ0
 obtain ⟨⟨qk, qn, qs, qi, ql⟩, pc⟩ := p
 have HCV0 := Lib.hid (fun W (h : Below w.heap.size w W) => copyValue_any _ S' cs v W (Nat.le_refl _) (RVal.fair.below hr h))
 obtain ⟨vd, hvd⟩ : ∃ x, x = v := ⟨_, rfl⟩
 rw [← hvd] at HCV0 HPJ0
 clear hvd
 obtain ⟨kind, n, s, ids, l⟩ := v
 obtain ⟨I1, d1, I2, d2, rfl, -, -⟩ := hr.parts
 obtain ⟨x1, x2, x3, x4⟩ := boxes3 w [.slice AW bw.length cw] [.slice AR br.length cr] [.int .i64 kind, .int .i64 n, .string s, .slice I1 ids.length d1, .slice I2 l.length d2] 24 24 37
 clear hb1 hb2 hr hW hM o1 o2 s1 s2 hok hd hc hp
 go_enter Tryz.func4, Tryz.ntmps4
 go_upto_region 1 with fail
 generalize (World.alloc _ (Obj.cells #[.int .i64 kind, .int .i64 n, .string s, .slice I1 ids.length d1, .slice I2 l.length d2] 37)) = W0 at x1 x2 x3 x4 ⊢
 have HUP := Lib.hid (fun W' (h : RowKit.Below W0.heap.size W0 W') => (show RowKit.Below w.heap.size w W' from below_via x4 h x4.size))
 have HSK := Lib.hid (fun (W' : World) (h : RowKit.Below W0.heap.size W0 W') => (⟨(x1.below h x1.lt).cell 0, (x2.below h x2.lt).cell 0, (x3.below h x3.lt).five⟩ : World.cell? W' ⟨w.heap.size, 0, none⟩ = some (.slice AW bw.length cw) ∧ World.cell? W' ⟨w.heap.size + 1, 0, none⟩ = some (.slice AR br.length cr) ∧ (World.cell? W' ⟨w.heap.size + 1 + 1, 0, none⟩ = some (.int .i64 kind) ∧ World.cell? W' ⟨w.heap.size + 1 + 1, 1, none⟩ = some (.int .i64 n) ∧ World.cell? W' ⟨w.heap.size + 1 + 1, 2, none⟩ = some (.string s) ∧ World.cell? W' ⟨w.heap.size + 1 + 1, 3, none⟩ = some (.slice I1 ids.length d1) ∧ World.cell? W' ⟨w.heap.size + 1 + 1, 4, none⟩ = some (.slice I2 l.length d2))))
 have HCB := Lib.hid (fun (W' : World) (h : RowKit.Below W0.heap.size W0 W') => copyBook_any S (.slice AW bw.length cw) bw W' ((RSl.fair RType.fair).below H1.out (HUP.out W' h)))
 have HCR := Lib.hid (fun (W' : World) (h : RowKit.Below W0.heap.size W0 W') => copyBook_any S (.slice AR br.length cr) br W' ((RSl.fair RType.fair).below H2.out (HUP.out W' h)))
 have HCV := Lib.hid (fun (W' : World) (h : RowKit.Below W0.heap.size W0 W') => HCV0.out W' (HUP.out W' h))
 have HPJ := Lib.hid (fun (S' : Nat → Prop) (A1 A2 : Option Addr) (c1 c2 : Nat) (cs : List Value) {W : World} (h : RowKit.Below W0.heap.size W0 W) q1 q2 q3 => HPJ0.out (New W0) S' A1 A2 c1 c2 cs W (HUP.out W h) q1 q2 q3)
 clear HCV0 HPJ0
 go_cut [9, 10] from 13 to 23 (fun p q W' => ∃ g9 F1 h1 F2 h2, p = .pointer (some ⟨g9, 0, none⟩) ∧ q = .int .i64 pc ∧ Box W' g9 37 [.int .i64 qk, .int .i64 qn, .string qs, .slice F1 qi.length h1, .slice F2 ql.length h2] ∧ RVal (fun _ => True) W' [.int .i64 qk, .int .i64 qn, .string qs, .slice F1 qi.length h1, .slice F2 ql.length h2] (.mk qk qn qs qi ql) ∧ RowKit.Below W0.heap.size W0 W')
 case first =>
  have hB := below_drew (Below.refl W0.heap.size W0)
  have hS := HSK.out _ hB
  clear x1 x2 x3 x4
  refine lateP_start (fun W' => World.cell? W' ⟨w.heap.size, 0, none⟩ = some (.slice AW bw.length cw) ∧ World.cell? W' ⟨w.heap.size + 1, 0, none⟩ = some (.slice AR br.length cr) ∧ (World.cell? W' ⟨w.heap.size + 1 + 1, 0, none⟩ = some (.int .i64 kind) ∧ World.cell? W' ⟨w.heap.size + 1 + 1, 1, none⟩ = some (.int .i64 n) ∧ World.cell? W' ⟨w.heap.size + 1 + 1, 2, none⟩ = some (.string s) ∧ World.cell? W' ⟨w.heap.size + 1 + 1, 3, none⟩ = some (.slice I1 ids.length d1) ∧ World.cell? W' ⟨w.heap.size + 1 + 1, 4, none⟩ = some (.slice I2 l.length d2))) (fun i => decide (i < 12)) (by kernel_rfl) ?_
  generalize W0.drew = Wb at hB hS ⊢
  refine tkP 0 hS ?_
  try simp only [pu]
  refine tkP 2 hS ?_
  try simp only [pu]
  refine ppP 4 ?_
  try simp only [pu]
  refine tkP 5 hS ?_
  try simp only [pu]
  refine lateP_two (i := 1) (j := 11) rfl rfl (by kernel_rfl) (fun K hK => ?_) (fun K hK => ?_)
  ·--[T1
   go_simp
   refine (HCB.out _ hB).mono ?_
   rintro e wb ⟨A1, c1, rfl, hrb0, hbb⟩
   have hrb := copied (RSl.fair RType.fair) hB hrb0
   clear hrb0
   (first | (replace hrb := (RSl.fair RType.fair).below hrb hbb) | skip)
   (first | (replace hrr := (RSl.fair RType.fair).below hrr hbb) | skip)
   (first | (replace hrv := RVal.fair.below hrv hbb) | skip)
   (first | (replace hG9 := hG9.below hbb hG9.lt) | skip)
   replace hB := below_via hB hbb hB.size
   clear hS hbb
   have hS := HSK.out _ hB
   refine hK.out _ _ (fun _ _ => hS) ?_
   clear hK K
   try simp only [pu]
   refine lateP_two (i := 3) (j := 11) rfl rfl (by kernel_rfl) (fun K hK => ?_) (fun K hK => ?_)
   ·--[T2
    go_simp
    refine (HCR.out _ hB).mono ?_
    rintro e wb ⟨A2, c2, rfl, hrr0, hbb⟩
    have hrr := copied (RSl.fair RType.fair) hB hrr0
    clear hrr0
    (first | (replace hrb := (RSl.fair RType.fair).below hrb hbb) | skip)
    (first | (replace hrr := (RSl.fair RType.fair).below hrr hbb) | skip)
    (first | (replace hrv := RVal.fair.below hrv hbb) | skip)
    (first | (replace hG9 := hG9.below hbb hG9.lt) | skip)
    replace hB := below_via hB hbb hB.size
    clear hS hbb
    have hS := HSK.out _ hB
    refine hK.out _ _ (fun _ _ => hS) ?_
    clear hK K
    try simp only [pu]
    refine lateP_two (i := 6) (j := 11) rfl rfl (by kernel_rfl) (fun K hK => ?_) (fun K hK => ?_)
    ·--[T3
     go_simp
     refine (HCV.out _ hB).mono ?_
     rintro e wb ⟨csv, rfl, hrv0, hbb⟩
     (first | (have hrv := val_ne hG9 hrv0) | (have hrv := val_true hrv0))
     clear hrv0
     (first | (replace hrb := (RSl.fair RType.fair).below hrb hbb) | skip)
     (first | (replace hrr := (RSl.fair RType.fair).below hrr hbb) | skip)
     (first | (replace hrv := RVal.fair.below hrv hbb) | skip)
     (first | (replace hG9 := hG9.below hbb hG9.lt) | skip)
     replace hB := below_via hB hbb hB.size
     clear hS hbb
     have hS := HSK.out _ hB
     refine hK.out _ _ (fun _ _ => hS) ?_
     clear hK K
     try simp only [pu]
     refine lateP_two (i := 7) (j := 11) rfl rfl (by kernel_rfl) (fun K hK => ?_) (fun K hK => ?_)
     ·--[T4
      go_simp
      refine (HPJ.out _ _ _ _ _ _ hB hrb hrr hrv).mono ?_
      rintro e wb ⟨csp, rfl, hrp0, hbb⟩
      obtain ⟨F1, h1, F2, h2, rfl, -, -⟩ := hrp0.parts
      (first | (have hrp := un_ne hG9 hrp0) | (have hrp := val_true hrp0))
      clear hrp0 hrb hrr hrv
      (first | (replace hrb := (RSl.fair RType.fair).below hrb hbb) | skip)
      (first | (replace hrr := (RSl.fair RType.fair).below hrr hbb) | skip)
      (first | (replace hrv := RVal.fair.below hrv hbb) | skip)
      (first | (replace hG9 := hG9.below hbb hG9.lt) | skip)
      replace hB := below_via hB hbb hB.size
      clear hS hbb
      have hS := HSK.out _ hB
      refine hK.out _ _ (fun _ _ => hS) ?_
      clear hK K
      try simp only [pu]
      refine ppP 8 ?_
      try simp only [pu]
      refine ppP 9 ?_
      try simp only [pu]
      refine ppP 10 ?_
      try simp only [pu]
      refine lateP_one (i := 11) rfl (by kernel_rfl) (fun K hK => ?_)
      go_simp
      have hG9 := newValP hB
      have hL9 := hB.size
      (first | (replace hrb := (RSl.fair RType.fair).keep hrb (Keep.alloc _ _ (.cells #[.int .i64 0, .int .i64 0, .string ⟨#[]⟩, .slice none 0 0, .slice none 0 0] 37))) | skip)
      (first | (replace hrr := (RSl.fair RType.fair).keep hrr (Keep.alloc _ _ (.cells #[.int .i64 0, .int .i64 0, .string ⟨#[]⟩, .slice none 0 0, .slice none 0 0] 37))) | skip)
      (first | (replace hrv := val_alloc (.cells #[.int .i64 0, .int .i64 0, .string ⟨#[]⟩, .slice none 0 0, .slice none 0 0] 37) hrv) | skip)
      (first | (replace hrp := val_alloc (.cells #[.int .i64 0, .int .i64 0, .string ⟨#[]⟩, .slice none 0 0, .slice none 0 0] 37) hrp) | skip)
      replace hB := hB.alloc hB.size (.cells #[.int .i64 0, .int .i64 0, .string ⟨#[]⟩, .slice none 0 0, .slice none 0 0] 37)
      clear hS
      have hS := HSK.out _ hB
      refine hK.out _ _ (fun _ _ => hS) ?_
      clear hK K
      try simp only [pu]
      generalize World.alloc _ (.cells #[.int .i64 0, .int .i64 0, .string ⟨#[]⟩, .slice none 0 0, .slice none 0 0] 37) = W9 at *
      obtain ⟨r0, r1, r2, r3, r4⟩ := hG9.five
      have g0 := hG9.frozen 0
      have g1 := hG9.frozen 1
      have g2 := hG9.frozen 2
      have g3 := hG9.frozen 3
      have g4 := hG9.frozen 4
      have hlr := hG9.lt
      refine lateP_one (i := 12) rfl (by kernel_rfl) (fun K hK => ?_)
      go_simp
      clear r0 r1 r2 r3 r4 g0 g1 g2 g3 g4 hlr
      refine hK.out _ _ (fun h => absurd h (by decide)) ?_
      clear hK K
      try simp only [pu]
      refine lateP_one (i := 13) rfl (by kernel_rfl) (fun K hK => ?_)
      go_simp
      refine hK.out _ _ (fun h => absurd h (by decide)) ?_
      clear hK K
      try simp only [pu]
      refine lateP_done (by kernel_rfl) ?_ _
      go_wp2_with fail
      have hfin := fin_val hG9 hrp rfl hB hL9
      clear hG9 hrp hB hL9 hS
      go_meet
      case rel => exact ⟨_, F1, h1, F2, h2, rfl, rfl, hfin⟩
     ·--[U4
      go_simp
      have hG9 := newValP hB
      have hL9 := hB.size
      (first | (replace hrb := (RSl.fair RType.fair).keep hrb (Keep.alloc _ _ (.cells #[.int .i64 0, .int .i64 0, .string ⟨#[]⟩, .slice none 0 0, .slice none 0 0] 37))) | skip)
      (first | (replace hrr := (RSl.fair RType.fair).keep hrr (Keep.alloc _ _ (.cells #[.int .i64 0, .int .i64 0, .string ⟨#[]⟩, .slice none 0 0, .slice none 0 0] 37))) | skip)
      (first | (replace hrv := val_alloc (.cells #[.int .i64 0, .int .i64 0, .string ⟨#[]⟩, .slice none 0 0, .slice none 0 0] 37) hrv) | skip)
      (first | (replace hrp := val_alloc (.cells #[.int .i64 0, .int .i64 0, .string ⟨#[]⟩, .slice none 0 0, .slice none 0 0] 37) hrp) | skip)
      replace hB := hB.alloc hB.size (.cells #[.int .i64 0, .int .i64 0, .string ⟨#[]⟩, .slice none 0 0, .slice none 0 0] 37)
      clear hS
      have hS := HSK.out _ hB
      refine hK.out _ _ (fun _ _ => hS) ?_
      clear hK K
      try simp only [pu]
      generalize World.alloc _ (.cells #[.int .i64 0, .int .i64 0, .string ⟨#[]⟩, .slice none 0 0, .slice none 0 0] 37) = W9 at *
      refine lateP_one (i := 7) rfl (by kernel_rfl) (fun K hK => ?_)
      go_simp
      refine (HPJ.out _ _ _ _ _ _ hB hrb hrr hrv).mono ?_
      rintro e wb ⟨csp, rfl, hrp0, hbb⟩
      obtain ⟨F1, h1, F2, h2, rfl, -, -⟩ := hrp0.parts
      (first | (have hrp := un_ne hG9 hrp0) | (have hrp := val_true hrp0))
      clear hrp0 hrb hrr hrv
      (first | (replace hrb := (RSl.fair RType.fair).below hrb hbb) | skip)
      (first | (replace hrr := (RSl.fair RType.fair).below hrr hbb) | skip)
      (first | (replace hrv := RVal.fair.below hrv hbb) | skip)
      (first | (replace hG9 := hG9.below hbb hG9.lt) | skip)
      replace hB := below_via hB hbb hB.size
      clear hS hbb
      have hS := HSK.out _ hB
      refine hK.out _ _ (fun _ _ => hS) ?_
      clear hK K
      try simp only [pu]
      refine ppP 8 ?_
      try simp only [pu]
      refine ppP 9 ?_
      try simp only [pu]
      refine ppP 10 ?_
      try simp only [pu]
      obtain ⟨r0, r1, r2, r3, r4⟩ := hG9.five
      have g0 := hG9.frozen 0
      have g1 := hG9.frozen 1
      have g2 := hG9.frozen 2
      have g3 := hG9.frozen 3
      have g4 := hG9.frozen 4
      have hlr := hG9.lt
      refine lateP_one (i := 12) rfl (by kernel_rfl) (fun K hK => ?_)
      go_simp
      clear r0 r1 r2 r3 r4 g0 g1 g2 g3 g4 hlr
      refine hK.out _ _ (fun h => absurd h (by decide)) ?_
      clear hK K
      try simp only [pu]
      refine lateP_one (i := 13) rfl (by kernel_rfl) (fun K hK => ?_)
      go_simp
      refine hK.out _ _ (fun h => absurd h (by decide)) ?_
      clear hK K
      try simp only [pu]
      refine lateP_done (by kernel_rfl) ?_ _
      go_wp2_with fail
      have hfin := fin_val hG9 hrp rfl hB hL9
      clear hG9 hrp hB hL9 hS
      go_meet
      case rel => exact ⟨_, F1, h1, F2, h2, rfl, rfl, hfin⟩
    ·--[U3
     go_simp
     have hG9 := newValP hB
     have hL9 := hB.size
     (first | (replace hrb := (RSl.fair RType.fair).keep hrb (Keep.alloc _ _ (.cells #[.int .i64 0, .int .i64 0, .string ⟨#[]⟩, .slice none 0 0, .slice none 0 0] 37))) | skip)
     (first | (replace hrr := (RSl.fair RType.fair).keep hrr (Keep.alloc _ _ (.cells #[.int .i64 0, .int .i64 0, .string ⟨#[]⟩, .slice none 0 0, .slice none 0 0] 37))) | skip)
     (first | (replace hrv := val_alloc (.cells #[.int .i64 0, .int .i64 0, .string ⟨#[]⟩, .slice none 0 0, .slice none 0 0] 37) hrv) | skip)
     (first | (replace hrp := val_alloc (.cells #[.int .i64 0, .int .i64 0, .string ⟨#[]⟩, .slice none 0 0, .slice none 0 0] 37) hrp) | skip)
     replace hB := hB.alloc hB.size (.cells #[.int .i64 0, .int .i64 0, .string ⟨#[]⟩, .slice none 0 0, .slice none 0 0] 37)
     clear hS
     have hS := HSK.out _ hB
     refine hK.out _ _ (fun _ _ => hS) ?_
     clear hK K
     try simp only [pu]
     generalize World.alloc _ (.cells #[.int .i64 0, .int .i64 0, .string ⟨#[]⟩, .slice none 0 0, .slice none 0 0] 37) = W9 at *
     refine lateP_one (i := 6) rfl (by kernel_rfl) (fun K hK => ?_)
     go_simp
     refine (HCV.out _ hB).mono ?_
     rintro e wb ⟨csv, rfl, hrv0, hbb⟩
     (first | (have hrv := val_ne hG9 hrv0) | (have hrv := val_true hrv0))
     clear hrv0
     (first | (replace hrb := (RSl.fair RType.fair).below hrb hbb) | skip)
     (first | (replace hrr := (RSl.fair RType.fair).below hrr hbb) | skip)
     (first | (replace hrv := RVal.fair.below hrv hbb) | skip)
     (first | (replace hG9 := hG9.below hbb hG9.lt) | skip)
     replace hB := below_via hB hbb hB.size
     clear hS hbb
     have hS := HSK.out _ hB
     refine hK.out _ _ (fun _ _ => hS) ?_
     clear hK K
     try simp only [pu]
     refine lateP_one (i := 7) rfl (by kernel_rfl) (fun K hK => ?_)
     go_simp
     refine (HPJ.out _ _ _ _ _ _ hB hrb hrr hrv).mono ?_
     rintro e wb ⟨csp, rfl, hrp0, hbb⟩
     obtain ⟨F1, h1, F2, h2, rfl, -, -⟩ := hrp0.parts
     (first | (have hrp := un_ne hG9 hrp0) | (have hrp := val_true hrp0))
     clear hrp0 hrb hrr hrv
     (first | (replace hrb := (RSl.fair RType.fair).below hrb hbb) | skip)
     (first | (replace hrr := (RSl.fair RType.fair).below hrr hbb) | skip)
     (first | (replace hrv := RVal.fair.below hrv hbb) | skip)
     (first | (replace hG9 := hG9.below hbb hG9.lt) | skip)
     replace hB := below_via hB hbb hB.size
     clear hS hbb
     have hS := HSK.out _ hB
     refine hK.out _ _ (fun _ _ => hS) ?_
     clear hK K
     try simp only [pu]
     refine ppP 8 ?_
     try simp only [pu]
     refine ppP 9 ?_
     try simp only [pu]
     refine ppP 10 ?_
     try simp only [pu]
     obtain ⟨r0, r1, r2, r3, r4⟩ := hG9.five
     have g0 := hG9.frozen 0
     have g1 := hG9.frozen 1
     have g2 := hG9.frozen 2
     have g3 := hG9.frozen 3
     have g4 := hG9.frozen 4
     have hlr := hG9.lt
     refine lateP_one (i := 12) rfl (by kernel_rfl) (fun K hK => ?_)
     go_simp
     clear r0 r1 r2 r3 r4 g0 g1 g2 g3 g4 hlr
     refine hK.out _ _ (fun h => absurd h (by decide)) ?_
     clear hK K
     try simp only [pu]
     refine lateP_one (i := 13) rfl (by kernel_rfl) (fun K hK => ?_)
     go_simp
     refine hK.out _ _ (fun h => absurd h (by decide)) ?_
     clear hK K
     try simp only [pu]
     refine lateP_done (by kernel_rfl) ?_ _
     go_wp2_with fail
     have hfin := fin_val hG9 hrp rfl hB hL9
     clear hG9 hrp hB hL9 hS
     go_meet
     case rel => exact ⟨_, F1, h1, F2, h2, rfl, rfl, hfin⟩
   ·--[U2
    go_simp
    have hG9 := newValP hB
    have hL9 := hB.size
    (first | (replace hrb := (RSl.fair RType.fair).keep hrb (Keep.alloc _ _ (.cells #[.int .i64 0, .int .i64 0, .string ⟨#[]⟩, .slice none 0 0, .slice none 0 0] 37))) | skip)
    (first | (replace hrr := (RSl.fair RType.fair).keep hrr (Keep.alloc _ _ (.cells #[.int .i64 0, .int .i64 0, .string ⟨#[]⟩, .slice none 0 0, .slice none 0 0] 37))) | skip)
    (first | (replace hrv := val_alloc (.cells #[.int .i64 0, .int .i64 0, .string ⟨#[]⟩, .slice none 0 0, .slice none 0 0] 37) hrv) | skip)
    (first | (replace hrp := val_alloc (.cells #[.int .i64 0, .int .i64 0, .string ⟨#[]⟩, .slice none 0 0, .slice none 0 0] 37) hrp) | skip)
    replace hB := hB.alloc hB.size (.cells #[.int .i64 0, .int .i64 0, .string ⟨#[]⟩, .slice none 0 0, .slice none 0 0] 37)
    clear hS
    have hS := HSK.out _ hB
    refine hK.out _ _ (fun _ _ => hS) ?_
    clear hK K
    try simp only [pu]
    generalize World.alloc _ (.cells #[.int .i64 0, .int .i64 0, .string ⟨#[]⟩, .slice none 0 0, .slice none 0 0] 37) = W9 at *
    refine lateP_one (i := 3) rfl (by kernel_rfl) (fun K hK => ?_)
    go_simp
    refine (HCR.out _ hB).mono ?_
    rintro e wb ⟨A2, c2, rfl, hrr0, hbb⟩
    have hrr := copied (RSl.fair RType.fair) hB hrr0
    clear hrr0
    (first | (replace hrb := (RSl.fair RType.fair).below hrb hbb) | skip)
    (first | (replace hrr := (RSl.fair RType.fair).below hrr hbb) | skip)
    (first | (replace hrv := RVal.fair.below hrv hbb) | skip)
    (first | (replace hG9 := hG9.below hbb hG9.lt) | skip)
    replace hB := below_via hB hbb hB.size
    clear hS hbb
    have hS := HSK.out _ hB
    refine hK.out _ _ (fun _ _ => hS) ?_
    clear hK K
    try simp only [pu]
    refine lateP_one (i := 6) rfl (by kernel_rfl) (fun K hK => ?_)
    go_simp
    refine (HCV.out _ hB).mono ?_
    rintro e wb ⟨csv, rfl, hrv0, hbb⟩
    (first | (have hrv := val_ne hG9 hrv0) | (have hrv := val_true hrv0))
    clear hrv0
    (first | (replace hrb := (RSl.fair RType.fair).below hrb hbb) | skip)
    (first | (replace hrr := (RSl.fair RType.fair).below hrr hbb) | skip)
    (first | (replace hrv := RVal.fair.below hrv hbb) | skip)
    (first | (replace hG9 := hG9.below hbb hG9.lt) | skip)
    replace hB := below_via hB hbb hB.size
    clear hS hbb
    have hS := HSK.out _ hB
    refine hK.out _ _ (fun _ _ => hS) ?_
    clear hK K
    try simp only [pu]
    refine lateP_one (i := 7) rfl (by kernel_rfl) (fun K hK => ?_)
    go_simp
    refine (HPJ.out _ _ _ _ _ _ hB hrb hrr hrv).mono ?_
    rintro e wb ⟨csp, rfl, hrp0, hbb⟩
    obtain ⟨F1, h1, F2, h2, rfl, -, -⟩ := hrp0.parts
    (first | (have hrp := un_ne hG9 hrp0) | (have hrp := val_true hrp0))
    clear hrp0 hrb hrr hrv
    (first | (replace hrb := (RSl.fair RType.fair).below hrb hbb) | skip)
    (first | (replace hrr := (RSl.fair RType.fair).below hrr hbb) | skip)
    (first | (replace hrv := RVal.fair.below hrv hbb) | skip)
    (first | (replace hG9 := hG9.below hbb hG9.lt) | skip)
    replace hB := below_via hB hbb hB.size
    clear hS hbb
    have hS := HSK.out _ hB
    refine hK.out _ _ (fun _ _ => hS) ?_
    clear hK K
    try simp only [pu]
    refine ppP 8 ?_
    try simp only [pu]
    refine ppP 9 ?_
    try simp only [pu]
    refine ppP 10 ?_
    try simp only [pu]
    obtain ⟨r0, r1, r2, r3, r4⟩ := hG9.five
    have g0 := hG9.frozen 0
    have g1 := hG9.frozen 1
    have g2 := hG9.frozen 2
    have g3 := hG9.frozen 3
    have g4 := hG9.frozen 4
    have hlr := hG9.lt
    refine lateP_one (i := 12) rfl (by kernel_rfl) (fun K hK => ?_)
    go_simp
    clear r0 r1 r2 r3 r4 g0 g1 g2 g3 g4 hlr
    refine hK.out _ _ (fun h => absurd h (by decide)) ?_
    clear hK K
    try simp only [pu]
    refine lateP_one (i := 13) rfl (by kernel_rfl) (fun K hK => ?_)
    go_simp
    refine hK.out _ _ (fun h => absurd h (by decide)) ?_
    clear hK K
    try simp only [pu]
    refine lateP_done (by kernel_rfl) ?_ _
    go_wp2_with fail
    have hfin := fin_val hG9 hrp rfl hB hL9
    clear hG9 hrp hB hL9 hS
    go_meet
    case rel => exact ⟨_, F1, h1, F2, h2, rfl, rfl, hfin⟩
  ·--[U1
   go_simp
   have hG9 := newValP hB
   have hL9 := hB.size
   (first | (replace hrb := (RSl.fair RType.fair).keep hrb (Keep.alloc _ _ (.cells #[.int .i64 0, .int .i64 0, .string ⟨#[]⟩, .slice none 0 0, .slice none 0 0] 37))) | skip)
   (first | (replace hrr := (RSl.fair RType.fair).keep hrr (Keep.alloc _ _ (.cells #[.int .i64 0, .int .i64 0, .string ⟨#[]⟩, .slice none 0 0, .slice none 0 0] 37))) | skip)
   (first | (replace hrv := val_alloc (.cells #[.int .i64 0, .int .i64 0, .string ⟨#[]⟩, .slice none 0 0, .slice none 0 0] 37) hrv) | skip)
   (first | (replace hrp := val_alloc (.cells #[.int .i64 0, .int .i64 0, .string ⟨#[]⟩, .slice none 0 0, .slice none 0 0] 37) hrp) | skip)
   replace hB := hB.alloc hB.size (.cells #[.int .i64 0, .int .i64 0, .string ⟨#[]⟩, .slice none 0 0, .slice none 0 0] 37)
   clear hS
   have hS := HSK.out _ hB
   refine hK.out _ _ (fun _ _ => hS) ?_
   clear hK K
   try simp only [pu]
   generalize World.alloc _ (.cells #[.int .i64 0, .int .i64 0, .string ⟨#[]⟩, .slice none 0 0, .slice none 0 0] 37) = W9 at *
   refine lateP_one (i := 1) rfl (by kernel_rfl) (fun K hK => ?_)
   go_simp
   refine (HCB.out _ hB).mono ?_
   rintro e wb ⟨A1, c1, rfl, hrb0, hbb⟩
   have hrb := copied (RSl.fair RType.fair) hB hrb0
   clear hrb0
   (first | (replace hrb := (RSl.fair RType.fair).below hrb hbb) | skip)
   (first | (replace hrr := (RSl.fair RType.fair).below hrr hbb) | skip)
   (first | (replace hrv := RVal.fair.below hrv hbb) | skip)
   (first | (replace hG9 := hG9.below hbb hG9.lt) | skip)
   replace hB := below_via hB hbb hB.size
   clear hS hbb
   have hS := HSK.out _ hB
   refine hK.out _ _ (fun _ _ => hS) ?_
   clear hK K
   try simp only [pu]
   refine lateP_one (i := 3) rfl (by kernel_rfl) (fun K hK => ?_)
   go_simp
   refine (HCR.out _ hB).mono ?_
   rintro e wb ⟨A2, c2, rfl, hrr0, hbb⟩
   have hrr := copied (RSl.fair RType.fair) hB hrr0
   clear hrr0
   (first | (replace hrb := (RSl.fair RType.fair).below hrb hbb) | skip)
   (first | (replace hrr := (RSl.fair RType.fair).below hrr hbb) | skip)
   (first | (replace hrv := RVal.fair.below hrv hbb) | skip)
   (first | (replace hG9 := hG9.below hbb hG9.lt) | skip)
   replace hB := below_via hB hbb hB.size
   clear hS hbb
   have hS := HSK.out _ hB
   refine hK.out _ _ (fun _ _ => hS) ?_
   clear hK K
   try simp only [pu]
   refine lateP_one (i := 6) rfl (by kernel_rfl) (fun K hK => ?_)
   go_simp
   refine (HCV.out _ hB).mono ?_
   rintro e wb ⟨csv, rfl, hrv0, hbb⟩
   (first | (have hrv := val_ne hG9 hrv0) | (have hrv := val_true hrv0))
   clear hrv0
   (first | (replace hrb := (RSl.fair RType.fair).below hrb hbb) | skip)
   (first | (replace hrr := (RSl.fair RType.fair).below hrr hbb) | skip)
   (first | (replace hrv := RVal.fair.below hrv hbb) | skip)
   (first | (replace hG9 := hG9.below hbb hG9.lt) | skip)
   replace hB := below_via hB hbb hB.size
   clear hS hbb
   have hS := HSK.out _ hB
   refine hK.out _ _ (fun _ _ => hS) ?_
   clear hK K
   try simp only [pu]
   refine lateP_one (i := 7) rfl (by kernel_rfl) (fun K hK => ?_)
   go_simp
   refine (HPJ.out _ _ _ _ _ _ hB hrb hrr hrv).mono ?_
   rintro e wb ⟨csp, rfl, hrp0, hbb⟩
   obtain ⟨F1, h1, F2, h2, rfl, -, -⟩ := hrp0.parts
   (first | (have hrp := un_ne hG9 hrp0) | (have hrp := val_true hrp0))
   clear hrp0 hrb hrr hrv
   (first | (replace hrb := (RSl.fair RType.fair).below hrb hbb) | skip)
   (first | (replace hrr := (RSl.fair RType.fair).below hrr hbb) | skip)
   (first | (replace hrv := RVal.fair.below hrv hbb) | skip)
   (first | (replace hG9 := hG9.below hbb hG9.lt) | skip)
   replace hB := below_via hB hbb hB.size
   clear hS hbb
   have hS := HSK.out _ hB
   refine hK.out _ _ (fun _ _ => hS) ?_
   clear hK K
   try simp only [pu]
   refine ppP 8 ?_
   try simp only [pu]
   refine ppP 9 ?_
   try simp only [pu]
   refine ppP 10 ?_
   try simp only [pu]
   obtain ⟨r0, r1, r2, r3, r4⟩ := hG9.five
   have g0 := hG9.frozen 0
   have g1 := hG9.frozen 1
   have g2 := hG9.frozen 2
   have g3 := hG9.frozen 3
   have g4 := hG9.frozen 4
   have hlr := hG9.lt
   refine lateP_one (i := 12) rfl (by kernel_rfl) (fun K hK => ?_)
   go_simp
   clear r0 r1 r2 r3 r4 g0 g1 g2 g3 g4 hlr
   refine hK.out _ _ (fun h => absurd h (by decide)) ?_
   clear hK K
   try simp only [pu]
   refine lateP_one (i := 13) rfl (by kernel_rfl) (fun K hK => ?_)
   go_simp
   refine hK.out _ _ (fun h => absurd h (by decide)) ?_
   clear hK K
   try simp only [pu]
   refine lateP_done (by kernel_rfl) ?_ _
   go_wp2_with fail
   have hfin := fin_val hG9 hrp rfl hB hL9
   clear hG9 hrp hB hL9 hS
   go_meet
   case rel => exact ⟨_, F1, h1, F2, h2, rfl, rfl, hfin⟩
 case rest =>
  obtain ⟨g9, F1, h1, F2, h2, rfl, rfl, hG, hv, hB⟩ := hcut
  clear HSK HCB HCR HCV HPJ H1 H2 HV
  obtain ⟨W1, hW1⟩ : ∃ V, V = wc := ⟨_, rfl⟩
  subst hW1
  have y1 := x1.below hB x1.lt
  have y2 := x2.below hB x2.lt
  have y3 := x3.below hB x3.lt
  have hw1 := HUP.out _ hB
  clear x1 x2 x3 x4 hB HUP
  have z1 := y1.cell 0
  have l1 := y1.lt
  have z2 := y2.cell 0
  have l2 := y2.lt
  obtain ⟨u0, u1, u2, u3, u4⟩ := y3.five
  have l3 := y3.lt
  have Hc := Lib.hid (HPD.out _ hw1)
  clear HPD y1 y2 y3
  go_wp2_with fail
  refine Hc.out.mono ?_
  rintro e w2 ⟨cs2, rfl, hr2, hb2⟩
  obtain ⟨J1, j1, J2, j2, rfl, -, -⟩ := hr2.parts
  have hw2 := (below_via hw1 hb2 hw1.size).alloc (below_via hw1 hb2 hw1.size).size (.cells [.int .i64 qk, .int .i64 qn, .string qs, .slice J1 qi.length j1, .slice J2 ql.length j2].toArray 37)
  have hG2 := (hG.below hb2 hG.lt).alloc (.cells [.int .i64 qk, .int .i64 qn, .string qs, .slice J1 qi.length j1, .slice J2 ql.length j2].toArray 37)
  have hN := Box.new w2 37 [.int .i64 qk, .int .i64 qn, .string qs, .slice J1 qi.length j1, .slice J2 ql.length j2]
  have hv2 := RVal.fair.keep (RVal.fair.below hv hb2) (Keep.alloc _ _ (.cells [.int .i64 qk, .int .i64 qn, .string qs, .slice J1 qi.length j1, .slice J2 ql.length j2].toArray 37))
  have hr3 := RVal.fair.keep hr2 (Keep.alloc _ _ (.cells [.int .i64 qk, .int .i64 qn, .string qs, .slice J1 qi.length j1, .slice J2 ql.length j2].toArray 37))
  clear z1 l1 z2 l2 u0 u1 u2 u3 u4 l3 Hc hr2 hb2 hw1 hG hv
  go_upto_region 3 with fail
  generalize w2.heap.size = T at hN ⊢
  generalize (World.alloc w2 _) = W2 at hw2 hG2 hN hv2 hr3 ⊢
  have Hsm := Lib.hid (fun W (h : RowKit.Below W2.heap.size W2 W) => same_anyR _ _ _ _ _ (.mk qk qn qs qi ql) W (Nat.le_refl _) (RVal.fair.below hv2 h) (RVal.fair.below hr3 h))
  have Hfi := Lib.hid (fun W (h : RowKit.Below W2.heap.size W2 W) => finds_any W (HW.out.below (below_via hw2 h hw2.size)))
  obtain ⟨c0, c1, c2, c3, c4⟩ := hG2.five
  have lc := hG2.lt
  obtain ⟨u0, u1, u2, u3, u4⟩ := hN.five
  have lu := hN.lt
  have HW2 := Lib.hid hw2
  clear hG2 hN hv2 hr3 hw2
  go_wp2_with fail
  refine (Hsm.out _ (Below.here W2)).mono ?_
  rintro e w3 ⟨rfl, hb3⟩
  go_wp2_with fail
  refine (Hfi.out _ hb3).mono ?_
  rintro e w4 ⟨rfl, hb4⟩
  have hb5 := below_via hb3 hb4 hb3.size
  have hwF := below_via HW2.out hb5 HW2.out.size
  go_wp2_with fail
  go_ret
  exact ⟨rfl, hwF⟩
end Go.Proofs.YtfidfakcbjoilaaGreatDoor
