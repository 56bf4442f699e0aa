/- Several texts of walks and laws in one file; what each proves stands at its head. -/
import Derived.Test.YtihdnjnhhhafkaaGreatDoorProg
import Derived.Test.YtihdnjnhhhafkaaGreatDoorBookGood
import Derived.StringKeys
import Derived.Carry
import Derived.Maps.OwnSet
import Derived.Maps.OwnOps
import Derived.Test.YtihdnjnhhhafkaaGreatDoorBase
import Derived.Deep.Light
set_option linter.all false
set_option maxRecDepth 100000
set_option maxHeartbeats 8000000
namespace Go.Proofs.YtihdnjnhhhafkaaGreatDoor
open Go.RowKit Go.Maps
theorem law_str : Keyed Tryz.prog 9 := string_keyed Tryz.underlying9
theorem zero_int (w : World) : (zeroValue 3).run Tryz.prog w = .ok (.int .i64 0) w := by kernel_rfl
def keyS (x : ByteArray) : Lit := .string x.data.toList
def MapS (w : World) (b n : Nat) (f : ByteArray → Int) (h : ByteArray → Bool) : Prop :=
 ∃ D : DataW Nat, w.ownsMap Tryz.prog 9 (plainElem Tryz.prog 3) b n D ∧ ∀ x, D.atKey (keyS x) (.lit (.int .i64 0)) = .lit (.int .i64 (f x)) ∧ Maps.has D (keyS x) = h x
theorem key_of {x : ByteArray} (hx : x.size ≤ 140737488351232) : keyOf Tryz.prog 9 (.string x) = some (keyS x) :=
 WideMaps.keyOf_string_mk Tryz.underlying9 (Nat.le_trans hx (by unfold maxLen; decide))
theorem key_any {x : ByteArray} (hx : x.size ≤ 9223372036854775807) : keyOf Tryz.prog 9 (.string x) = some (keyS x) := WideMaps.keyOf_string_mk Tryz.underlying9 (Nat.le_trans hx (by unfold maxLen; decide))
theorem keyS_inj {x y : ByteArray} (h : keyS x = keyS y) : x = y := by
 have : x.data.toList = y.data.toList := by injection h
 cases x; cases y; simp_all [Array.toList_inj]
theorem MapS.made (w : World) : MapS (w.alloc (.map #[] 0)) w.heap.size 0 (fun _ => 0) (fun _ => false) :=
 ⟨.map [], World.ownsMap_made _ _ _ _, fun _ => ⟨rfl, rfl⟩⟩
theorem MapS.lt {w : World} {b n : Nat} {f : ByteArray → Int} {h : ByteArray → Bool} (H : MapS w b n f h) : b < w.heap.size := by
 obtain ⟨D, h1, _⟩ := H; exact h1.lt
theorem MapS.alloc {w : World} {b n : Nat} {f : ByteArray → Int} {h : ByteArray → Bool} (H : MapS w b n f h) (o : Obj) : MapS (w.alloc o) b n f h := by
 obtain ⟨D, h1, h2⟩ := H; exact ⟨D, h1.alloc o, h2⟩
theorem MapS.drewN {w : World} {b n : Nat} {f : ByteArray → Int} {h : ByteArray → Bool} (H : MapS w b n f h) (m : Nat) : MapS (w.drewN m) b n f h := by
 obtain ⟨D, h1, h2⟩ := H; exact ⟨D, h1, h2⟩
theorem MapS.below {w w' : World} {b n : Nat} {f : ByteArray → Int} {h : ByteArray → Bool} (H : MapS w b n f h) (hb : Below w.heap.size w w') : MapS w' b n f h := by
 obtain ⟨D, h1, h2⟩ := H; exact ⟨D, h1.kept (grown_below hb none) (by simp), h2⟩
theorem MapS.mono {w : World} {b n n' : Nat} {f : ByteArray → Int} {h : ByteArray → Bool} (H : MapS w b n f h) (hn : n ≤ n') : MapS w b n' f h := by
 obtain ⟨D, h1, h2⟩ := H; exact ⟨D, h1.mono hn, h2⟩
theorem MapS.kept {w w' : World} {b n : Nat} {f : ByteArray → Int} {h : ByteArray → Bool} {row : Option Nat} (H : MapS w b n f h) (hg : w.grownBy w' row) (hne : some b ≠ row) : MapS w' b n f h := by
 obtain ⟨D, h1, h2⟩ := H; exact ⟨D, h1.kept hg hne, h2⟩
theorem MapS.congr {w : World} {b n : Nat} {f g : ByteArray → Int} {h k : ByteArray → Bool} (H : MapS w b n f h) (e1 : ∀ x, f x = g x) (e2 : ∀ x, h x = k x) : MapS w b n g k := by
 obtain ⟨D, h1, h2⟩ := H; exact ⟨D, h1, fun x => by rw [← e1, ← e2]; exact h2 x⟩
theorem MapS.look_any {w : World} {b n : Nat} {f : ByteArray → Int} {h : ByteArray → Bool} (H : MapS w b n f h) {x : ByteArray} (hx : x.size ≤ 9223372036854775807) :
  (Instr.lookup 89 (.map (some b)) (.string x) false).run Tryz.prog w = .ok (.int .i64 (f x)) w := by
 obtain ⟨D, h1, h2⟩ := H
 obtain ⟨c, hr, hc, -⟩ := h1.lookup_int law_str Tryz.underlying89 Tryz.underlying3 (zero_int w) (key_any hx)
 rw [hr]
 have := (h2 x).1
 rw [hc] at this
 simp only [DataW.lit.injEq, Lit.int.injEq, true_and] at this
 rw [this]
theorem MapS.look {w : World} {b n : Nat} {f : ByteArray → Int} {h : ByteArray → Bool} (H : MapS w b n f h) {x : ByteArray} (hx : x.size ≤ 140737488351232) :
  (Instr.lookup 89 (.map (some b)) (.string x) false).run Tryz.prog w = .ok (.int .i64 (f x)) w := H.look_any (Nat.le_trans hx (by decide))
theorem MapS.look_ok {w : World} {b n : Nat} {f : ByteArray → Int} {h : ByteArray → Bool} (H : MapS w b n f h) {x : ByteArray} (hx : x.size ≤ 140737488351232) :
  (Instr.lookup 89 (.map (some b)) (.string x) true).run Tryz.prog w = .ok (.tuple #[.int .i64 (f x), .bool (h x)]) w := by
 obtain ⟨D, h1, h2⟩ := H
 obtain ⟨v, ps, hr, hv⟩ := h1.look_ok law_str Tryz.underlying89 (zero_int w) (plainElem_int Tryz.underlying3 (by decide)) (key_of hx)
 obtain ⟨c, rfl, hc, -⟩ := plainElem_int_inv Tryz.underlying3 hv
 rw [hr, (h2 x).2]
 have := (h2 x).1
 rw [Prod.mk.injEq] at hc
 rw [hc.1] at this
 simp only [DataW.lit.injEq, Lit.int.injEq, true_and] at this
 rw [this]
theorem MapS.put {w : World} {b n : Nat} {f : ByteArray → Int} {h : ByteArray → Bool} (H : MapS w b n f h) {x : ByteArray} (hx : x.size ≤ 140737488351232) (hn : n ≤ 4000000000000) {v : Int} (hv : (Lit.int .i64 v).wf = true) :
  ∃ w', (Instr.mapUpdate 89 (.map (some b)) (.string x) (.int .i64 v)).run Tryz.prog w = .ok () w' ∧ MapS w' b (n + 1) (fun y => if y = x then v else f y) (fun y => if y = x then true else h y) ∧ w.grownBy w' (some b) := by
 obtain ⟨D, h1, h2⟩ := H
 obtain ⟨w', hr, h3, hg⟩ := h1.update law_str Tryz.underlying89 (Nat.lt_of_le_of_lt hn (by unfold maxLen; decide)) (key_of hx) (plainElem_int Tryz.underlying3 hv)
 refine ⟨w', hr, ⟨_, h3, fun y => ?_⟩, hg⟩
 have hM : IsMap D := h1.isMap
 by_cases hy : y = x
 ·subst hy
  simp only [if_true]
  exact ⟨atKey_put_same hM (by first | trivial | simp [keyS, WideAt.IsKeyLit]) _ _, has_put_same hM (by first | trivial | simp [keyS, WideAt.IsKeyLit]) _⟩
 ·have hne : keyS y ≠ keyS x := fun e => hy (keyS_inj e)
  simp only [if_neg hy]
  rw [atKey_put_other hne, has_put_other hne]
  exact h2 y
end Go.Proofs.YtihdnjnhhhafkaaGreatDoor
namespace Go.Proofs.YtihdnjnhhhafkaaGreatDoor
open Go.RowKit
theorem findT_none {b : BookD} {x : ByteArray} (h : ∀ i (hi : i < b.length), b[i].name ≠ x) : findT b x = none := by
 unfold findT
 rw [List.find?_eq_none]
 intro t ht
 obtain ⟨i, hi, rfl⟩ := List.getElem_of_mem ht
 simpa using h i hi
theorem findT_at {b : BookD} (hd : ∀ i j (hj : j < b.length) (hij : i < j), b[i].name ≠ b[j].name) {k : Nat} (hk : k < b.length) : findT b b[k].name = some b[k] := by
 unfold findT
 rw [List.find?_eq_some_iff_getElem]
 exact ⟨by simp, k, hk, rfl, fun j hj => by simpa using hd j k hk hj⟩
def namesN (b : BookD) (k : Nat) : List ByteArray := (b.take k).map (·.name)
theorem names_step {b : BookD} {k : Nat} (hk : k < b.length) (x : ByteArray) : hasS (namesN b (k + 1)) x = if x = b[k].name then true else hasS (namesN b k) x := by
 unfold namesN hasS
 rw [List.take_succ_eq_append_getElem hk, List.map_append, List.any_append]
 by_cases h : x = b[k].name
 ·simp [h]
 ·simp [h, Ne.symm h]
theorem namesN_mem {b : BookD} {k : Nat} {x : ByteArray} : hasS (namesN b k) x = true ↔ ∃ i, ∃ (h : i < b.length), i < k ∧ b[i].name = x := by
 unfold namesN hasS
 rw [List.any_eq_true]
 constructor
 ·rintro ⟨y, hy, hx⟩
  obtain ⟨z, hz, rfl⟩ := List.mem_map.1 hy
  obtain ⟨j, hj, rfl⟩ := List.getElem_of_mem hz
  have hj' : j < k := by have := List.length_take_le k b; omega
  rw [List.getElem_take] at hx
  exact ⟨j, by have := hj; rw [List.length_take] at this; omega, hj', by simpa using hx⟩
 ·rintro ⟨i, h, hi, rfl⟩
  exact ⟨b[i].name, List.mem_map.2 ⟨b[i], List.mem_iff_getElem.2 ⟨i, by rw [List.length_take]; omega, by rw [List.getElem_take]⟩, rfl⟩, by simp⟩
def hasJ (b : BookD) (j : Nat) (x : ByteArray) : Bool := if j = 0 then false else hasS (namesN b b.length) x
theorem findT_first {b : BookD} {k : Nat} (hk : k < b.length) (hno : hasS (namesN b k) b[k].name = false) : findT b b[k].name = some b[k] := by
 unfold findT
 rw [List.find?_eq_some_iff_getElem]
 refine ⟨by simp, k, hk, rfl, fun j hj => ?_⟩
 have : b[j].name ≠ b[k].name := fun e => by
  have : hasS (namesN b k) b[k].name = true := namesN_mem.2 ⟨j, by omega, hj, e⟩
  rw [hno] at this; cases this
 simpa using this
theorem least_end {b : BookD} {j k : Nat} (hk : b.length ≤ k) (x : ByteArray) : (if hasS (namesN b k) x = true then ((leastF b (j + 1) x : Nat) : Int) else 0) = (leastF b (j + 1) x : Nat) := by
 by_cases h : hasS (namesN b k) x = true
 ·rw [if_pos h]
 ·rw [if_neg h]
  have : findT b x = none := findT_none fun i hi he => h (namesN_mem.2 ⟨i, hi, by omega, he⟩)
  simp [leastF, this]
theorem leastIn_any (S : Nat → Prop) (vb : Value) (b : BookD) (name : ByteArray) (w : World) (hb0 : RSl 5 96 RType S w [vb] b)
  (hz : ∀ t ∈ b, t.name.size ≤ 140737488351232 ∧ ∀ f ∈ t.fields, f.type.size ≤ 140737488351232) (hnz : name.size ≤ 9223372036854775807) :
  Calls Tryz.prog 41 #[.agg #[vb], .string name] w (Ret w (.int .i64 (leastF b 4 name))) := by
 obtain ⟨A, cap, rfl, hlc, hlb⟩ := hb0.form
 have HB := Lib.hid hb0
 have HZ := Lib.hid hz
 have hmm := @run_makeMap Tryz.prog
 obtain ⟨x1, x3⟩ := boxes1 w [.slice A b.length cap] 24
 have X1 := Lib.hid x1
 have X3 := Lib.hid x3
 clear hb0 hz x1 x3
 go_enter Tryz.func41, Tryz.ntmps41
 go_wp2_with fail
 go_loopw [5, 16] (fun m i wr => ∃ (j bk n : Nat), m = .map (some bk) ∧ i = .int .i64 j ∧ j ≤ 4 ∧ w.heap.size + 1 ≤ bk ∧ n ≤ 2 * b.length ∧ MapS wr bk n (fun x => (leastF b j x : Nat)) (hasJ b j) ∧ Box wr w.heap.size 24 [.slice A b.length cap] ∧ Below w.heap.size w wr) (fun _ i _ => 4 - (intOf i).toNat)
 case atStart =>
  refine ⟨0, _, 0, rfl, rfl, by omega, ?_, by omega, ?_, X1.out.alloc _, X3.out.alloc X3.out.size _⟩
  ·simp
  ·have h0 := MapS.made (w.alloc (.cells #[.slice A b.length cap] 24))
   rw [World.size_alloc] at h0
   exact h0.congr (fun x => by simp [leastF]) (fun x => by simp [hasJ])
 case round =>
  obtain ⟨j, bk, n, rfl, rfl, hj, hbk, hn16, hm, hbx, hb⟩ := hrel
  by_cases hj4 : j < 4
  ·have b0 : wr.cell? ⟨w.heap.size, 0, none⟩ = some (.slice A b.length cap) := hbx.cell 0
   have bl := hbx.lt
   have hmx : MapS (wr.alloc (.map #[] 0)) wr.heap.size 0 (fun _ => 0) (fun _ => false) := MapS.made wr
   have hbx1 := hbx.alloc (.map #[] 0)
   have hm1 := hm.alloc (.map #[] 0)
   have hb1 := hb.alloc hb.size (.map #[] 0)
   have hmlt := hm.lt
   clear hbx hm
   have hj4b : decide ((j : Int) < 4) = true := by simp; omega
   go_wp2_with fail
   clear b0
   obtain ⟨bn, hbn⟩ : ∃ bn, bn = wr.heap.size := ⟨_, rfl⟩
   rw [← hbn] at hmx hmlt ⊢
   have hbn1 : w.heap.size + 1 ≤ bn := by omega
   generalize wr.alloc (.map #[] 0) = wq at *
   clear hbn hb wr bl
   go_loopw [22] (fun i wr => ∃ (k : Nat), i = .int .i64 k ∧ k ≤ b.length ∧ MapS wr bk n (fun x => (leastF b j x : Nat)) (hasJ b j) ∧ MapS wr bn (2 * k) (fun x => if hasS (namesN b k) x = true then ((leastF b (j + 1) x : Nat) : Int) else 0) (hasS (namesN b k)) ∧ Box wr w.heap.size 24 [.slice A b.length cap] ∧ Below w.heap.size w wr) (fun i _ => b.length - (intOf i).toNat)
   case atStart => exact ⟨0, rfl, by omega, hm1, hmx, hbx1, hb1⟩
   case round =>
    clear hm1 hmx hbx1 hb1
    obtain ⟨k, rfl, hk, hm, hx, hbx, hb⟩ := hrel
    by_cases hlt : k < b.length
    ·obtain ⟨g, o, es, rfl, hS, hg, hes, hr, hc0⟩ := HB.out.at_ hlt
     have hc := hc0.keep (Keep.of_below hb) hS
     have hgw : g < wr.heap.size := Nat.lt_of_lt_of_le hg hb.size
     have hzt := HZ.out b[k] (List.getElem_mem hlt)
     by_cases hdup : hasS (namesN b k) b[k].name = true
     ·--[DUP
      have hst := names_step (b := b) hlt
      obtain ⟨t, hte⟩ : ∃ t, t = b[k] := ⟨_, rfl⟩
      rw [← hte] at hr hzt hst hdup
      have hxs : ∀ x, hasS (namesN b (k + 1)) x = hasS (namesN b k) x := fun x => by
       rw [hst x]
       by_cases hx : x = t.name
       ·rw [if_pos hx, hx, hdup]
       ·rw [if_neg hx]
      obtain ⟨A1, k1, A2, k2, A3, k3, rfl, hfs, -, -⟩ := hr.parts
      have q0 : wr.cell? ⟨g, o + k * 5, none⟩ = some (.string t.name) := hc.at_ 0 rfl
      have q1 : wr.cell? ⟨g, o + k * 5 + 1, none⟩ = some (.bool t.enum) := hc.at_ 1 rfl
      have q2 : wr.cell? ⟨g, o + k * 5 + 2, none⟩ = some (.slice A1 t.fields.length k1) := hc.at_ 2 rfl
      have q3 : wr.cell? ⟨g, o + k * 5 + 3, none⟩ = some (.slice A2 t.gone.length k2) := hc.at_ 3 rfl
      have q4 : wr.cell? ⟨g, o + k * 5 + 4, none⟩ = some (.slice A3 t.items.length k3) := hc.at_ 4 rfl
      have hx0 := hx.lt
      have hwa := hb.alloc hb.size (.cells #[.string t.name, .bool t.enum, .slice A1 t.fields.length k1, .slice A2 t.gone.length k2, .slice A3 t.items.length k3] 38)
      have hma := hm.alloc (.cells #[.string t.name, .bool t.enum, .slice A1 t.fields.length k1, .slice A2 t.gone.length k2, .slice A3 t.items.length k3] 38)
      have hxa := hx.alloc (.cells #[.string t.name, .bool t.enum, .slice A1 t.fields.length k1, .slice A2 t.gone.length k2, .slice A3 t.items.length k3] 38)
      have hbxa := hbx.alloc (.cells #[.string t.name, .bool t.enum, .slice A1 t.fields.length k1, .slice A2 t.gone.length k2, .slice A3 t.items.length k3] 38)
      have hlk := hxa.look_ok hzt.1
      rw [hdup] at hlk
      have hxn := Lib.hid (((hxa.mono (show 2 * k ≤ 2 * (k + 1) by omega)).congr (g := fun x => if hasS (namesN b (k + 1)) x = true then ((leastF b (j + 1) x : Nat) : Int) else 0) (k := hasS (namesN b (k + 1))) (fun x => by rw [hxs]) (fun x => (hxs x).symm)))
      clear hc hc0 hst hr hte hb hm hx hbx hfs hdup hzt hxa hxs
      go_wp2_with fail
      go_roundw
      case rel => exact ⟨k + 1, by go_num, by omega, hma, hxn.out, hbxa, hwa⟩
      case measure => simp [intOf]; omega
     have hno : hasS (namesN b k) b[k].name = false := by simpa using hdup
     have hft := findT_first hlt hno
     clear hdup
     have hst := names_step (b := b) hlt
     obtain ⟨t, hte⟩ : ∃ t, t = b[k] := ⟨_, rfl⟩
     rw [← hte] at hr hft hzt hno hst
     have hL : leastF b (j + 1) t.name = if t.enum = true ∨ 5 < t.fields.length then 0 else leastGo (leastF b j) t.fields 1 := by
      rw [leastF, hft]
     obtain ⟨L, hLe⟩ : ∃ L, L = leastF b (j + 1) t.name := ⟨_, rfl⟩
     rw [← hLe] at hL
     obtain ⟨A1, k1, A2, k2, A3, k3, rfl, hfs, -, -⟩ := hr.parts
     have q0 : wr.cell? ⟨g, o + k * 5, none⟩ = some (.string t.name) := hc.at_ 0 rfl
     have q1 : wr.cell? ⟨g, o + k * 5 + 1, none⟩ = some (.bool t.enum) := hc.at_ 1 rfl
     have q2 : wr.cell? ⟨g, o + k * 5 + 2, none⟩ = some (.slice A1 t.fields.length k1) := hc.at_ 2 rfl
     have q3 : wr.cell? ⟨g, o + k * 5 + 3, none⟩ = some (.slice A2 t.gone.length k2) := hc.at_ 3 rfl
     have q4 : wr.cell? ⟨g, o + k * 5 + 4, none⟩ = some (.slice A3 t.items.length k3) := hc.at_ 4 rfl
     have HFS := Lib.hid hfs
     have hm0 := hm.lt
     have hx0 := hx.lt
     have HST := Lib.hid hst
     have HLE := Lib.hid hLe
     have hwa := hb.alloc hb.size (.cells #[.string t.name, .bool t.enum, .slice A1 t.fields.length k1, .slice A2 t.gone.length k2, .slice A3 t.items.length k3] 38)
     have hma := hm.alloc (.cells #[.string t.name, .bool t.enum, .slice A1 t.fields.length k1, .slice A2 t.gone.length k2, .slice A3 t.items.length k3] 38)
     have hxa := hx.alloc (.cells #[.string t.name, .bool t.enum, .slice A1 t.fields.length k1, .slice A2 t.gone.length k2, .slice A3 t.items.length k3] 38)
     have hbxa := hbx.alloc (.cells #[.string t.name, .bool t.enum, .slice A1 t.fields.length k1, .slice A2 t.gone.length k2, .slice A3 t.items.length k3] 38)
     have zb : Box (wr.alloc (.cells #[.string t.name, .bool t.enum, .slice A1 t.fields.length k1, .slice A2 t.gone.length k2, .slice A3 t.items.length k3] 38)) wr.heap.size 38 [.string t.name, .bool t.enum, .slice A1 t.fields.length k1, .slice A2 t.gone.length k2, .slice A3 t.items.length k3] := Box.new wr _ _
     have hlk := hxa.look_ok hzt.1
     rw [hno] at hlk
     obtain ⟨e0, he0⟩ : ∃ e, e = (!t.enum && decide (t.fields.length < 6)) := ⟨_, rfl⟩
     have HL0 : Hid (L = if e0 = true then leastGo (leastF b j) t.fields 1 else 0) := by
      show L = _
      rw [hL, he0]
      cases t.enum with
      | true => simp
      | false =>
       by_cases h5 : 5 < t.fields.length
       ·have h6 : ¬ t.fields.length < 6 := by omega
        simp [h5, h6]
       ·have h6 : t.fields.length < 6 := by omega
        simp [h5, h6]
     have htl : t.fields.length ≤ 2600000000000 := by
      obtain ⟨_, _, -, -, hl⟩ := hfs.form
      omega
     have HZT := Lib.hid hzt.2
     have Hno := Lib.hid hno
     obtain ⟨tn, ten, tf, tg, ti⟩ := t
     dsimp only at *
     have hzn := hzt.1
     clear hc hc0 hft hst hr hte hL hLe hb hm hx hbx hfs hno hzt
     cases ten with
     | true =>
      have he1 : e0 = false := by simpa using he0
      subst he1
      clear he0
      go_wp2_with fail
      go_quiet (fail)
      have hwq := below_drewN hwa nq
      have hmq := hma.drewN nq
      have hxq := hxa.drewN nq
      have hbxq := hbxa.drewN nq
      have zq := zb.drewN nq
      clear hwa hma hxa hbxa zb hlk
      obtain ⟨X, hX⟩ : ∃ X, X = wr.heap.size := ⟨_, rfl⟩
      have hXb : bk < X := by rw [hX]; exact hm0
      have hXn : bn < X := by rw [hX]; exact hx0
      rw [← hX] at zq ⊢
      clear hX
      generalize (wr.alloc (.cells #[.string tn, .bool true, .slice A1 tf.length k1, .slice A2 tg.length k2, .slice A3 ti.length k3] 38)).drewN nq = wq2 at *
      have z2 := zq.cell 2
      have zl := zq.lt
      simp only [List.getElem?_cons_zero, List.getElem?_cons_succ] at z2
      go_wp2_with fail
      go_loopw [11, 12, 46] (fun c e i wi => ∃ (m : Nat) (n' : Nat) (e' : Bool), c = .int .i64 n' ∧ e = .bool e' ∧ i = .int .i64 m ∧ m ≤ tf.length ∧ n' ≤ 1 + 216 * m ∧ Hid (L = if e' = true then leastGo (leastF b j) (tf.drop m) n' else 0) ∧ Below wq2.heap.size wq2 wi) (fun _ _ i _ => tf.length - (intOf i).toNat)
      case atStart => exact ⟨0, 1, _, rfl, rfl, rfl, by omega, by omega, by rw [List.drop_zero]; exact HL0, Below.refl _ _⟩
      case round =>
       clear HL0 z2 zl
       obtain ⟨m, n', e', rfl, rfl, rfl, hm5, hn', HL, hbi⟩ := hrel
       have hwi := below_via hwq hbi hwq.size
       have hmi := hmq.below hbi
       have hxi := hxq.below hbi
       have hbxi := hbxq.below hbi hbxq.lt
       have zi := zq.below hbi zq.lt
       by_cases hmt : m < tf.length
       ·obtain ⟨g', o', rfl, hS', hg'⟩ := HFS.out.base (by omega)
        have hcf := (HFS.out.flat (enc := fieldCells) hmt).keep (Keep.of_below hwi) hS'
        have hgi : g' < wr.heap.size := Nat.lt_of_lt_of_le hg' hwi.size
        have hfz := HZT.out tf[m] (List.getElem_mem hmt)
        have hdr : tf.drop m = tf[m] :: tf.drop (m + 1) := List.drop_eq_getElem_cons hmt
        rw [hdr] at HL
        obtain ⟨f0, hxe⟩ : ∃ x, x = tf[m] := ⟨_, rfl⟩
        rw [← hxe] at hcf hfz HL
        clear hxe hdr
        obtain ⟨fid, fname, ftype, fkind, frule⟩ := f0
        have p0 : wr.cell? ⟨g', o' + m * 5, none⟩ = some (.int .i64 fid) := hcf.at_ 0 rfl
        have p1 : wr.cell? ⟨g', o' + m * 5 + 1, none⟩ = some (.string fname) := hcf.at_ 1 rfl
        have p2 : wr.cell? ⟨g', o' + m * 5 + 2, none⟩ = some (.string ftype) := hcf.at_ 2 rfl
        have p3 : wr.cell? ⟨g', o' + m * 5 + 3, none⟩ = some (.int .i64 fkind) := hcf.at_ 3 rfl
        have p4 : wr.cell? ⟨g', o' + m * 5 + 4, none⟩ = some (.int .i64 frule) := hcf.at_ 4 rfl
        have hbz := hbi.alloc hbi.size (.cells #[.int .i64 fid, .string fname, .string ftype, .int .i64 fkind, .int .i64 frule] 43)
        have hma := hmi.alloc (.cells #[.int .i64 fid, .string fname, .string ftype, .int .i64 fkind, .int .i64 frule] 43)
        have hlk := hma.look hfz
        dsimp only at hlk hfz
        have h216 : leastF b j ftype ≤ 216 := leastF_216 b (by omega) ftype
        clear hcf hma hfz hmi hxi hbxi zi
        by_cases hr1 : frule = 1
        ·have hne1 : (frule != 1) = false := by simp [hr1]
         by_cases hk5 : fkind = 5
         ·have hne5 : (fkind != 5) = false := by simp [hk5]
          have HL2 : Hid (L = if (e' && decide ((leastF b j ftype : Int) > 0)) = true then leastGo (leastF b j) (tf.drop (m + 1)) (n' + leastF b j ftype) else 0) := by
           show L = _
           rw [HL.out]
           cases e' with
           | false => simp
           | true =>
            by_cases h0 : leastF b j ftype = 0
            ·simp [leastGo, hr1, hk5, h0]
            ·have : 0 < leastF b j ftype := by omega
             simp [leastGo, hr1, hk5, h0, this]
          generalize leastF b j ftype = q at *
          clear HL hr1 hk5
          cases e' with
          | false =>
           go_wp2_with fail
           go_roundw
           case rel => exact ⟨m + 1, n' + q, _, by go_num, rfl, by go_num, by omega, by omega, (show L = _ by rw [HL2.out]; simp), hbz⟩
           case measure => simp [intOf]; omega
          | true =>
           go_wp2_with fail
           go_roundw
           case rel => exact ⟨m + 1, n' + q, _, by go_num, rfl, by go_num, by omega, by omega, (show L = _ by rw [HL2.out]; simp), hbz⟩
           case measure => simp [intOf]; omega
         ·have hne5 : (fkind != 5) = true := by simpa using hk5
          have HL2 : Hid (L = if e' = true then leastGo (leastF b j) (tf.drop (m + 1)) (n' + 1) else 0) := by
           show L = _
           rw [HL.out]
           simp [leastGo, hr1, hk5]
          clear HL hr1 hk5 hlk
          go_wp2_with fail
          go_roundw
          case rel => exact ⟨m + 1, n' + 1, _, by go_num, rfl, by go_num, by omega, by omega, HL2, hbz⟩
          case measure => simp [intOf]; omega
        ·have hne1 : (frule != 1) = true := by simpa using hr1
         have HL2 : Hid (L = if e' = true then leastGo (leastF b j) (tf.drop (m + 1)) n' else 0) := by
          show L = _
          rw [HL.out]
          simp [leastGo, hr1]
         clear HL hr1 hlk
         go_wp2_with fail
         go_roundw
         case rel => exact ⟨m + 1, n', _, rfl, rfl, by go_num, by omega, by omega, HL2, hbz⟩
         case measure => simp [intOf]; omega
       ·have hL0 : L = if e' = true then n' else 0 := by rw [HL.out, List.drop_eq_nil_of_le (by omega)]; simp [leastGo]
        have d0 := zi.cell 0
        have dl := zi.lt
        simp only [List.getElem?_cons_zero] at d0
        obtain ⟨wu, hu1, hu2, hu3⟩ := hxi.put (x := tn) hzn (by omega) (v := 0) (by decide)
        have hwu := below_grown hwi hu3 hwi.size (fun g' h => by cases h; omega)
        have hmu := hmi.kept hu3 (by simp; omega)
        have hbxu := hbxi.grown hu3 (by simp; omega)
        have zu := zi.grown hu3 (by simp; omega)
        clear hwi hmi hxi hbxi zi hu3 hwq hmq hxq hbxq zq hbi
        cases e' with
        | false =>
         rw [if_neg (by decide)] at hL0
         go_wp2_with fail
         go_roundw
         case rel =>
          refine ⟨k + 1, by go_num, by omega, hmu, (hu2.mono (by omega)).congr (fun x => ?_) (fun x => (HST.out x).symm), hbxu, hwu⟩
          rw [HST.out x]
          by_cases hx : x = tn
          ·rw [if_pos hx, if_pos hx, if_pos rfl, hx, ← HLE.out, hL0]; rfl
          ·rw [if_neg hx, if_neg hx]
         case measure => simp [intOf]; omega
        | true =>
         rw [if_pos rfl] at hL0
         obtain ⟨wv, hv1, hv2, hv3⟩ := hu2.put (x := tn) hzn (by omega) (v := (n' : Int)) (WalkArith.wf_i64 (by omega))
         have hwv := below_grown hwu hv3 hwu.size (fun g' h => by cases h; omega)
         have hmv := hmu.kept hv3 (by simp; omega)
         have hbxv := hbxu.grown hv3 (by simp; omega)
         have e0 := zu.cell 0
         have el := zu.lt
         simp only [List.getElem?_cons_zero] at e0
         clear hv3 hmu hbxu hwu zu
         go_wp2_with fail
         go_roundw
         case rel =>
          refine ⟨k + 1, by go_num, by omega, hmv, (hv2.mono (by omega)).congr (fun x => ?_) (fun x => ?_), hbxv, hwv⟩
          ·rw [HST.out x]
           by_cases hx : x = tn
           ·rw [if_pos hx, if_pos hx, if_pos rfl, hx, ← HLE.out, hL0]
           ·rw [if_neg hx, if_neg hx, if_neg hx]
          ·rw [HST.out x]
           by_cases hx : x = tn
           ·rw [if_pos hx, if_pos hx]
           ·simp only [if_neg hx]
         case measure => simp [intOf]; omega
     | false =>
      by_cases h6 : tf.length < 6
      ·have he1 : e0 = true := by rw [he0]; simp [h6]
       subst he1
       have h6i : decide ((tf.length : Int) < 6) = true := by simp; omega
       clear he0 h6
       go_wp2_with fail
       go_quiet (fail)
       have hwq := below_drewN hwa nq
       have hmq := hma.drewN nq
       have hxq := hxa.drewN nq
       have hbxq := hbxa.drewN nq
       have zq := zb.drewN nq
       clear hwa hma hxa hbxa zb hlk
       obtain ⟨X, hX⟩ : ∃ X, X = wr.heap.size := ⟨_, rfl⟩
       have hXb : bk < X := by rw [hX]; exact hm0
       have hXn : bn < X := by rw [hX]; exact hx0
       rw [← hX] at zq ⊢
       clear hX
       generalize (wr.alloc (.cells #[.string tn, .bool false, .slice A1 tf.length k1, .slice A2 tg.length k2, .slice A3 ti.length k3] 38)).drewN nq = wq2 at *
       have z2 := zq.cell 2
       have zl := zq.lt
       simp only [List.getElem?_cons_zero, List.getElem?_cons_succ] at z2
       go_wp2_with fail
       go_loopw [11, 12, 46] (fun c e i wi => ∃ (m : Nat) (n' : Nat) (e' : Bool), c = .int .i64 n' ∧ e = .bool e' ∧ i = .int .i64 m ∧ m ≤ tf.length ∧ n' ≤ 1 + 216 * m ∧ Hid (L = if e' = true then leastGo (leastF b j) (tf.drop m) n' else 0) ∧ Below wq2.heap.size wq2 wi) (fun _ _ i _ => tf.length - (intOf i).toNat)
       case atStart => exact ⟨0, 1, _, rfl, rfl, rfl, by omega, by omega, by rw [List.drop_zero]; exact HL0, Below.refl _ _⟩
       case round =>
        clear HL0 z2 zl
        obtain ⟨m, n', e', rfl, rfl, rfl, hm5, hn', HL, hbi⟩ := hrel
        have hwi := below_via hwq hbi hwq.size
        have hmi := hmq.below hbi
        have hxi := hxq.below hbi
        have hbxi := hbxq.below hbi hbxq.lt
        have zi := zq.below hbi zq.lt
        by_cases hmt : m < tf.length
        ·obtain ⟨g', o', rfl, hS', hg'⟩ := HFS.out.base (by omega)
         have hcf := (HFS.out.flat (enc := fieldCells) hmt).keep (Keep.of_below hwi) hS'
         have hgi : g' < wr.heap.size := Nat.lt_of_lt_of_le hg' hwi.size
         have hfz := HZT.out tf[m] (List.getElem_mem hmt)
         have hdr : tf.drop m = tf[m] :: tf.drop (m + 1) := List.drop_eq_getElem_cons hmt
         rw [hdr] at HL
         obtain ⟨f0, hxe⟩ : ∃ x, x = tf[m] := ⟨_, rfl⟩
         rw [← hxe] at hcf hfz HL
         clear hxe hdr
         obtain ⟨fid, fname, ftype, fkind, frule⟩ := f0
         have p0 : wr.cell? ⟨g', o' + m * 5, none⟩ = some (.int .i64 fid) := hcf.at_ 0 rfl
         have p1 : wr.cell? ⟨g', o' + m * 5 + 1, none⟩ = some (.string fname) := hcf.at_ 1 rfl
         have p2 : wr.cell? ⟨g', o' + m * 5 + 2, none⟩ = some (.string ftype) := hcf.at_ 2 rfl
         have p3 : wr.cell? ⟨g', o' + m * 5 + 3, none⟩ = some (.int .i64 fkind) := hcf.at_ 3 rfl
         have p4 : wr.cell? ⟨g', o' + m * 5 + 4, none⟩ = some (.int .i64 frule) := hcf.at_ 4 rfl
         have hbz := hbi.alloc hbi.size (.cells #[.int .i64 fid, .string fname, .string ftype, .int .i64 fkind, .int .i64 frule] 43)
         have hma := hmi.alloc (.cells #[.int .i64 fid, .string fname, .string ftype, .int .i64 fkind, .int .i64 frule] 43)
         have hlk := hma.look hfz
         dsimp only at hlk hfz
         have h216 : leastF b j ftype ≤ 216 := leastF_216 b (by omega) ftype
         clear hcf hma hfz hmi hxi hbxi zi
         by_cases hr1 : frule = 1
         ·have hne1 : (frule != 1) = false := by simp [hr1]
          by_cases hk5 : fkind = 5
          ·have hne5 : (fkind != 5) = false := by simp [hk5]
           have HL2 : Hid (L = if (e' && decide ((leastF b j ftype : Int) > 0)) = true then leastGo (leastF b j) (tf.drop (m + 1)) (n' + leastF b j ftype) else 0) := by
            show L = _
            rw [HL.out]
            cases e' with
            | false => simp
            | true =>
             by_cases h0 : leastF b j ftype = 0
             ·simp [leastGo, hr1, hk5, h0]
             ·have : 0 < leastF b j ftype := by omega
              simp [leastGo, hr1, hk5, h0, this]
           generalize leastF b j ftype = q at *
           clear HL hr1 hk5
           cases e' with
           | false =>
            go_wp2_with fail
            go_roundw
            case rel => exact ⟨m + 1, n' + q, _, by go_num, rfl, by go_num, by omega, by omega, HL2, hbz⟩
            case measure => simp [intOf]; omega
           | true =>
            go_wp2_with fail
            go_roundw
            case rel => exact ⟨m + 1, n' + q, _, by go_num, rfl, by go_num, by omega, by omega, (show L = _ by rw [HL2.out]; simp), hbz⟩
            case measure => simp [intOf]; omega
          ·have hne5 : (fkind != 5) = true := by simpa using hk5
           have HL2 : Hid (L = if e' = true then leastGo (leastF b j) (tf.drop (m + 1)) (n' + 1) else 0) := by
            show L = _
            rw [HL.out]
            simp [leastGo, hr1, hk5]
           clear HL hr1 hk5 hlk
           go_wp2_with fail
           go_roundw
           case rel => exact ⟨m + 1, n' + 1, _, by go_num, rfl, by go_num, by omega, by omega, HL2, hbz⟩
           case measure => simp [intOf]; omega
         ·have hne1 : (frule != 1) = true := by simpa using hr1
          have HL2 : Hid (L = if e' = true then leastGo (leastF b j) (tf.drop (m + 1)) n' else 0) := by
           show L = _
           rw [HL.out]
           simp [leastGo, hr1]
          clear HL hr1 hlk
          go_wp2_with fail
          go_roundw
          case rel => exact ⟨m + 1, n', _, rfl, rfl, by go_num, by omega, by omega, HL2, hbz⟩
          case measure => simp [intOf]; omega
        ·have hL0 : L = if e' = true then n' else 0 := by rw [HL.out, List.drop_eq_nil_of_le (by omega)]; simp [leastGo]
         have d0 := zi.cell 0
         have dl := zi.lt
         simp only [List.getElem?_cons_zero] at d0
         obtain ⟨wu, hu1, hu2, hu3⟩ := hxi.put (x := tn) hzn (by omega) (v := 0) (by decide)
         have hwu := below_grown hwi hu3 hwi.size (fun g' h => by cases h; omega)
         have hmu := hmi.kept hu3 (by simp; omega)
         have hbxu := hbxi.grown hu3 (by simp; omega)
         have zu := zi.grown hu3 (by simp; omega)
         clear hwi hmi hxi hbxi zi hu3 hwq hmq hxq hbxq zq hbi
         cases e' with
         | false =>
          rw [if_neg (by decide)] at hL0
          go_wp2_with fail
          go_roundw
          case rel =>
           refine ⟨k + 1, by go_num, by omega, hmu, (hu2.mono (by omega)).congr (fun x => ?_) (fun x => (HST.out x).symm), hbxu, hwu⟩
           rw [HST.out x]
           by_cases hx : x = tn
           ·rw [if_pos hx, if_pos hx, if_pos rfl, hx, ← HLE.out, hL0]; rfl
           ·rw [if_neg hx, if_neg hx]
          case measure => simp [intOf]; omega
         | true =>
          rw [if_pos rfl] at hL0
          obtain ⟨wv, hv1, hv2, hv3⟩ := hu2.put (x := tn) hzn (by omega) (v := (n' : Int)) (WalkArith.wf_i64 (by omega))
          have hwv := below_grown hwu hv3 hwu.size (fun g' h => by cases h; omega)
          have hmv := hmu.kept hv3 (by simp; omega)
          have hbxv := hbxu.grown hv3 (by simp; omega)
          have e0 := zu.cell 0
          have el := zu.lt
          simp only [List.getElem?_cons_zero] at e0
          clear hv3 hmu hbxu hwu zu
          go_wp2_with fail
          go_roundw
          case rel =>
           refine ⟨k + 1, by go_num, by omega, hmv, (hv2.mono (by omega)).congr (fun x => ?_) (fun x => ?_), hbxv, hwv⟩
           ·rw [HST.out x]
            by_cases hx : x = tn
            ·rw [if_pos hx, if_pos hx, if_pos rfl, hx, ← HLE.out, hL0]
            ·rw [if_neg hx, if_neg hx, if_neg hx]
           ·rw [HST.out x]
            by_cases hx : x = tn
            ·rw [if_pos hx, if_pos hx]
            ·simp only [if_neg hx]
          case measure => simp [intOf]; omega
      ·have he1 : e0 = false := by rw [he0]; simp [h6]
       subst he1
       have h6i : decide ((tf.length : Int) < 6) = false := by simp; omega
       clear he0 h6
       go_wp2_with fail
       go_quiet (fail)
       have hwq := below_drewN hwa nq
       have hmq := hma.drewN nq
       have hxq := hxa.drewN nq
       have hbxq := hbxa.drewN nq
       have zq := zb.drewN nq
       clear hwa hma hxa hbxa zb hlk
       obtain ⟨X, hX⟩ : ∃ X, X = wr.heap.size := ⟨_, rfl⟩
       have hXb : bk < X := by rw [hX]; exact hm0
       have hXn : bn < X := by rw [hX]; exact hx0
       rw [← hX] at zq ⊢
       clear hX
       generalize (wr.alloc (.cells #[.string tn, .bool false, .slice A1 tf.length k1, .slice A2 tg.length k2, .slice A3 ti.length k3] 38)).drewN nq = wq2 at *
       have z2 := zq.cell 2
       have zl := zq.lt
       simp only [List.getElem?_cons_zero, List.getElem?_cons_succ] at z2
       go_wp2_with fail
       go_loopw [11, 12, 46] (fun c e i wi => ∃ (m : Nat) (n' : Nat) (e' : Bool), c = .int .i64 n' ∧ e = .bool e' ∧ i = .int .i64 m ∧ m ≤ tf.length ∧ n' ≤ 1 + 216 * m ∧ Hid (L = if e' = true then leastGo (leastF b j) (tf.drop m) n' else 0) ∧ Below wq2.heap.size wq2 wi) (fun _ _ i _ => tf.length - (intOf i).toNat)
       case atStart => exact ⟨0, 1, _, rfl, rfl, rfl, by omega, by omega, by rw [List.drop_zero]; exact HL0, Below.refl _ _⟩
       case round =>
        clear HL0 z2 zl
        obtain ⟨m, n', e', rfl, rfl, rfl, hm5, hn', HL, hbi⟩ := hrel
        have hwi := below_via hwq hbi hwq.size
        have hmi := hmq.below hbi
        have hxi := hxq.below hbi
        have hbxi := hbxq.below hbi hbxq.lt
        have zi := zq.below hbi zq.lt
        by_cases hmt : m < tf.length
        ·obtain ⟨g', o', rfl, hS', hg'⟩ := HFS.out.base (by omega)
         have hcf := (HFS.out.flat (enc := fieldCells) hmt).keep (Keep.of_below hwi) hS'
         have hgi : g' < wr.heap.size := Nat.lt_of_lt_of_le hg' hwi.size
         have hfz := HZT.out tf[m] (List.getElem_mem hmt)
         have hdr : tf.drop m = tf[m] :: tf.drop (m + 1) := List.drop_eq_getElem_cons hmt
         rw [hdr] at HL
         obtain ⟨f0, hxe⟩ : ∃ x, x = tf[m] := ⟨_, rfl⟩
         rw [← hxe] at hcf hfz HL
         clear hxe hdr
         obtain ⟨fid, fname, ftype, fkind, frule⟩ := f0
         have p0 : wr.cell? ⟨g', o' + m * 5, none⟩ = some (.int .i64 fid) := hcf.at_ 0 rfl
         have p1 : wr.cell? ⟨g', o' + m * 5 + 1, none⟩ = some (.string fname) := hcf.at_ 1 rfl
         have p2 : wr.cell? ⟨g', o' + m * 5 + 2, none⟩ = some (.string ftype) := hcf.at_ 2 rfl
         have p3 : wr.cell? ⟨g', o' + m * 5 + 3, none⟩ = some (.int .i64 fkind) := hcf.at_ 3 rfl
         have p4 : wr.cell? ⟨g', o' + m * 5 + 4, none⟩ = some (.int .i64 frule) := hcf.at_ 4 rfl
         have hbz := hbi.alloc hbi.size (.cells #[.int .i64 fid, .string fname, .string ftype, .int .i64 fkind, .int .i64 frule] 43)
         have hma := hmi.alloc (.cells #[.int .i64 fid, .string fname, .string ftype, .int .i64 fkind, .int .i64 frule] 43)
         have hlk := hma.look hfz
         dsimp only at hlk hfz
         have h216 : leastF b j ftype ≤ 216 := leastF_216 b (by omega) ftype
         clear hcf hma hfz hmi hxi hbxi zi
         by_cases hr1 : frule = 1
         ·have hne1 : (frule != 1) = false := by simp [hr1]
          by_cases hk5 : fkind = 5
          ·have hne5 : (fkind != 5) = false := by simp [hk5]
           have HL2 : Hid (L = if (e' && decide ((leastF b j ftype : Int) > 0)) = true then leastGo (leastF b j) (tf.drop (m + 1)) (n' + leastF b j ftype) else 0) := by
            show L = _
            rw [HL.out]
            cases e' with
            | false => simp
            | true =>
             by_cases h0 : leastF b j ftype = 0
             ·simp [leastGo, hr1, hk5, h0]
             ·have : 0 < leastF b j ftype := by omega
              simp [leastGo, hr1, hk5, h0, this]
           generalize leastF b j ftype = q at *
           clear HL hr1 hk5
           cases e' with
           | false =>
            go_wp2_with fail
            go_roundw
            case rel => exact ⟨m + 1, n' + q, _, by go_num, rfl, by go_num, by omega, by omega, HL2, hbz⟩
            case measure => simp [intOf]; omega
           | true =>
            go_wp2_with fail
            go_roundw
            case rel => exact ⟨m + 1, n' + q, _, by go_num, rfl, by go_num, by omega, by omega, (show L = _ by rw [HL2.out]; simp), hbz⟩
            case measure => simp [intOf]; omega
          ·have hne5 : (fkind != 5) = true := by simpa using hk5
           have HL2 : Hid (L = if e' = true then leastGo (leastF b j) (tf.drop (m + 1)) (n' + 1) else 0) := by
            show L = _
            rw [HL.out]
            simp [leastGo, hr1, hk5]
           clear HL hr1 hk5 hlk
           go_wp2_with fail
           go_roundw
           case rel => exact ⟨m + 1, n' + 1, _, by go_num, rfl, by go_num, by omega, by omega, HL2, hbz⟩
           case measure => simp [intOf]; omega
         ·have hne1 : (frule != 1) = true := by simpa using hr1
          have HL2 : Hid (L = if e' = true then leastGo (leastF b j) (tf.drop (m + 1)) n' else 0) := by
           show L = _
           rw [HL.out]
           simp [leastGo, hr1]
          clear HL hr1 hlk
          go_wp2_with fail
          go_roundw
          case rel => exact ⟨m + 1, n', _, rfl, rfl, by go_num, by omega, by omega, HL2, hbz⟩
          case measure => simp [intOf]; omega
        ·have hL0 : L = if e' = true then n' else 0 := by rw [HL.out, List.drop_eq_nil_of_le (by omega)]; simp [leastGo]
         have d0 := zi.cell 0
         have dl := zi.lt
         simp only [List.getElem?_cons_zero] at d0
         obtain ⟨wu, hu1, hu2, hu3⟩ := hxi.put (x := tn) hzn (by omega) (v := 0) (by decide)
         have hwu := below_grown hwi hu3 hwi.size (fun g' h => by cases h; omega)
         have hmu := hmi.kept hu3 (by simp; omega)
         have hbxu := hbxi.grown hu3 (by simp; omega)
         have zu := zi.grown hu3 (by simp; omega)
         clear hwi hmi hxi hbxi zi hu3 hwq hmq hxq hbxq zq hbi
         cases e' with
         | false =>
          rw [if_neg (by decide)] at hL0
          go_wp2_with fail
          go_roundw
          case rel =>
           refine ⟨k + 1, by go_num, by omega, hmu, (hu2.mono (by omega)).congr (fun x => ?_) (fun x => (HST.out x).symm), hbxu, hwu⟩
           rw [HST.out x]
           by_cases hx : x = tn
           ·rw [if_pos hx, if_pos hx, if_pos rfl, hx, ← HLE.out, hL0]; rfl
           ·rw [if_neg hx, if_neg hx]
          case measure => simp [intOf]; omega
         | true =>
          rw [if_pos rfl] at hL0
          obtain ⟨wv, hv1, hv2, hv3⟩ := hu2.put (x := tn) hzn (by omega) (v := (n' : Int)) (WalkArith.wf_i64 (by omega))
          have hwv := below_grown hwu hv3 hwu.size (fun g' h => by cases h; omega)
          have hmv := hmu.kept hv3 (by simp; omega)
          have hbxv := hbxu.grown hv3 (by simp; omega)
          have e0 := zu.cell 0
          have el := zu.lt
          simp only [List.getElem?_cons_zero] at e0
          clear hv3 hmu hbxu hwu zu
          go_wp2_with fail
          go_roundw
          case rel =>
           refine ⟨k + 1, by go_num, by omega, hmv, (hv2.mono (by omega)).congr (fun x => ?_) (fun x => ?_), hbxv, hwv⟩
           ·rw [HST.out x]
            by_cases hx : x = tn
            ·rw [if_pos hx, if_pos hx, if_pos rfl, hx, ← HLE.out, hL0]
            ·rw [if_neg hx, if_neg hx, if_neg hx]
           ·rw [HST.out x]
            by_cases hx : x = tn
            ·rw [if_pos hx, if_pos hx]
            ·simp only [if_neg hx]
          case measure => simp [intOf]; omega
    ·have hmf := hx.congr (fun x => least_end (j := j) (Nat.le_of_not_lt hlt) x) (fun x => rfl)
     have hkb : k = b.length := by omega
     subst hkb
     clear hm hx
     go_wp2_with fail
     go_roundw
     case rel =>
      exact ⟨j + 1, bn, _, rfl, by go_num, by omega, hbn1, by omega, hmf.congr (fun x => rfl) (fun x => by simp [hasJ]), hbx, hb⟩
     case measure => simp [intOf]; omega
  ·have h4 : j = 4 := by omega
   subst h4
   have hlk := hm.look_any hnz
   clear hm
   go_wp2_with fail
   go_ret
   exact ⟨rfl, hb⟩
end Go.Proofs.YtihdnjnhhhafkaaGreatDoor
