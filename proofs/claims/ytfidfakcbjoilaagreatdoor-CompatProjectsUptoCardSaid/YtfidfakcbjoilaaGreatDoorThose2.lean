/- The walk of the document's own those, with what it answers. -/
import Derived.Test.YtfidfakcbjoilaaGreatDoorRefMessage
import Derived.Test.YtfidfakcbjoilaaGreatDoorValueLeast
set_option linter.all false
set_option maxRecDepth 100000
set_option maxHeartbeats 8000000
namespace Go.Proofs.YtfidfakcbjoilaaGreatDoor
open Go.RowKit
def thoseZ (z : List (Int × ValueD)) (id : Int) : List ValueD := (z.filter fun p => decide (p.1 = id)).map (·.2)
theorem thoseZ_step {ids : List Int} {l : List ValueD} {k : Nat} (h1 : k < ids.length) (h2 : k < l.length) (id : Int) : thoseZ ((ids.zip l).take (k + 1)) id = thoseZ ((ids.zip l).take k) id ++ (if ids[k] = id then [l[k]] else []) := by
 unfold thoseZ
 rw [List.take_succ_eq_append_getElem (by rw [List.length_zip]; omega), List.filter_append, List.map_append]
 congr 1
 by_cases h : ids[k] = id <;> simp [h]
theorem thoseZ_len (z : List (Int × ValueD)) (id : Int) : (thoseZ z id).length ≤ z.length := by
 unfold thoseZ
 rw [List.length_map]
 exact List.length_filter_le _ _
def Those2 (S : Nat → Prop) (w : World) (L : List ValueD) (e : Ending) (w' : World) : Prop := ∃ v, e = .returned v ∧ Own (w.heap.size + 1) 37 5 RVal (fun y => S y ∧ y < w.heap.size) w' v L ∧ (L = [] → v = .slice none 0 0) ∧ w.heap.size < w'.heap.size ∧ Below w.heap.size w w'
theorem those2_any (S : Nat → Prop) (cs : List Value) (v : ValueD) (id : Int) (w : World) (hr : RVal S w cs v) (hl : v.ids.length ≤ v.l.length) :
  Calls Tryz.prog 57 #[.agg cs.toArray, .int .i64 id] w (Those2 S w (thoseZ (v.ids.zip v.l) id)) := by
 obtain ⟨kind, n, s, ids, l⟩ := v
 obtain ⟨I1, d1, I2, d2, rfl, hri, hrl⟩ := hr.parts
 obtain ⟨_, _, _, hic, hib⟩ := hri.form
 obtain ⟨_, _, _, hlc2, hlb2⟩ := hrl.form
 dsimp only [ValueD.ids, ValueD.l] at hl ⊢
 have HI := Lib.hid hri
 have HL := Lib.hid hrl
 obtain ⟨R, hRe⟩ : ∃ h, h = thoseZ (ids.zip l) id := ⟨_, rfl⟩
 rw [← hRe]
 have HR := Lib.hid hRe
 obtain ⟨x1, x2⟩ := boxes1 w [.int .i64 kind, .int .i64 n, .string s, .slice I1 ids.length d1, .slice I2 l.length d2] 37
 clear hr hri hrl hRe
 go_enter Tryz.func57, Tryz.ntmps57
 go_wp2_with fail
 go_loopw [5, 10] (fun v i wr => ∃ (k : Nat) (acc : List ValueD), i = .int .i64 k ∧ k ≤ ids.length ∧ acc.length ≤ k ∧ Hid (acc = thoseZ ((ids.zip l).take k) id) ∧ (acc = [] → v = .slice none 0 0) ∧
   Own (w.heap.size + 1) 37 5 RVal (fun y => S y ∧ y < w.heap.size) wr v acc ∧ Box wr w.heap.size 37 [.int .i64 kind, .int .i64 n, .string s, .slice I1 ids.length d1, .slice I2 l.length d2] ∧ Below w.heap.size w wr) (fun _ i _ => ids.length - (intOf i).toNat)
 case atStart => exact ⟨0, [], rfl, by omega, by simp, rfl, fun _ => rfl, Own.nil_ _ _ _ _ _ _, x1, x2⟩
 case round =>
  obtain ⟨k, acc, rfl, hk, hak, he, hnil, hor, hbv, hb⟩ := hrel
  clear x1 x2
  have hor0 := hor
  obtain ⟨R0, p0, rfl, _⟩ := hor0.form
  have Hnil := Lib.hid hnil
  clear hor0 hnil
  by_cases hlt : k < ids.length
  ·have hlk : k < l.length := by omega
   obtain ⟨ig, io, rfl, hSi, hgi⟩ := HI.out.base (by omega)
   obtain ⟨lg, lo, rfl, hSl, hlgw⟩ := HL.out.base (by omega)
   have hci := (HI.out.flat (enc := fun x : Int => [.int .i64 x]) hlt).keep (Keep.of_below hb) hSi
   obtain ⟨es, _, hrx, hlies⟩ := HL.out.lies hlk
   have htk := thoseZ_step hlt hlk id
   obtain ⟨y, hy⟩ : ∃ y, y = ids[k] := ⟨_, rfl⟩
   obtain ⟨x, hx⟩ : ∃ x, x = l[k] := ⟨_, rfl⟩
   rw [← hy] at hci htk
   rw [← hx] at hrx htk
   obtain ⟨xk, xn, xs, xi, xl⟩ := x
   obtain ⟨E1, f1, E2, f2, rfl, _, _⟩ := hrx.parts
   have hrT := RVal.fair.keep (RVal.fair.keep (RVal.fair.mono (T := (fun y => S y ∧ y < w.heap.size)) hrx (fun y hy hl => ⟨hy, hl⟩)) (Keep.of_below hb)) (Keep.alloc _ wr (.cells #[.int .i64 xk, .int .i64 xn, .string xs, .slice E1 xi.length f1, .slice E2 xl.length f2] 37))
   have hcl := hlies.keep (Keep.of_below hb) hSl
   have p0 : wr.cell? ⟨ig, io + k, none⟩ = some (.int .i64 y) := by have := hci.at_ 0 rfl; simpa using this
   have q0 : wr.cell? ⟨lg, lo + k * 5, none⟩ = some (.int .i64 xk) := hcl.at_ 0 rfl
   have q1 : wr.cell? ⟨lg, lo + k * 5 + 1, none⟩ = some (.int .i64 xn) := hcl.at_ 1 rfl
   have q2 : wr.cell? ⟨lg, lo + k * 5 + 2, none⟩ = some (.string xs) := hcl.at_ 2 rfl
   have q3 : wr.cell? ⟨lg, lo + k * 5 + 3, none⟩ = some (.slice E1 xi.length f1) := hcl.at_ 3 rfl
   have q4 : wr.cell? ⟨lg, lo + k * 5 + 4, none⟩ = some (.slice E2 xl.length f2) := hcl.at_ 4 rfl
   have hlgl : lg < wr.heap.size := Nat.lt_of_lt_of_le hlgw hb.size
   have hgil : ig < wr.heap.size := Nat.lt_of_lt_of_le hgi hb.size
   have b3 : wr.cell? ⟨w.heap.size, 3, none⟩ = some (.slice (some ⟨ig, io, none⟩) ids.length d1) := hbv.cell 3
   have b4 : wr.cell? ⟨w.heap.size, 4, none⟩ = some (.slice (some ⟨lg, lo, none⟩) l.length d2) := hbv.cell 4
   have hbl := hbv.lt
   have Htk := Lib.hid htk
   have HrT := Lib.hid hrT
   have HTl : Hid (∀ g, ((fun y => S y ∧ y < w.heap.size)) g → g < (wr.alloc (.cells #[.int .i64 xk, .int .i64 xn, .string xs, .slice E1 xi.length f1, .slice E2 xl.length f2] 37)).heap.size) := fun g hg => by
    have := hg.2; have := hb.size; simp; omega
   clear hci hrx hy hx hlies hcl htk hrT
   by_cases hyi : y = id
   ·subst hyi
    have he2 : Hid (acc ++ [ValueD.mk xk xn xs xi xl] = thoseZ ((ids.zip l).take (k + 1)) y) := by
     show _ = _
     rw [Htk.out, if_pos rfl, ← he.out]
    clear he Htk Hnil
    go_wp2_with (at_builtin; go_must (refine wl_append _ rfl (.tmp 20) (.tmp 26) rfl sl_vals RVal.fair rfl rfl (hor.alloc RVal.fair _) (Src.one (es := [.int .i64 xk, .int .i64 xn, .string xs, .slice E1 xi.length f1, .slice E2 xl.length f2]) (y := ValueD.mk xk xn xs xi xl) rfl (Ones.of_all rfl) HrT.out (Lies.newAt rfl)) HTl.out ?_ ?_ ?_))
    ·(try simp only [List.length_cons, List.length_nil]); omega
    ·have := hb.size; (try simp only [World.size_alloc]); omega
    intro v5 w5 ho5 hg5 hv5
    have hw5 := below_grown (hb.alloc hb.size (.cells #[.int .i64 xk, .int .i64 xn, .string xs, .slice E1 xi.length f1, .slice E2 xl.length f2] 37)) hg5 (by have := hb.size; simp; omega) (fun g' h => by have := (hor.lt h).1; omega)
    have hb5 := (hbv.alloc (.cells #[.int .i64 xk, .int .i64 xn, .string xs, .slice E1 xi.length f1, .slice E2 xl.length f2] 37)).grown hg5 (fun e => by have := (hor.lt e).1; omega)
    go_wp2_with fail
    go_roundw
    case rel => exact ⟨k + 1, acc ++ [ValueD.mk xk xn xs xi xl], by go_num, by omega, by simp; omega, he2, fun h => by simp at h, ho5, hb5, hw5⟩
    case measure => simp [intOf]; omega
   ·have e1 : (y == id) = false := by simpa using hyi
    have he2 : Hid (acc = thoseZ ((ids.zip l).take (k + 1)) id) := by
     show _ = _
     rw [Htk.out, if_neg hyi, List.append_nil]; exact he.out
    clear he Htk hyi HrT HTl
    go_wp2_with fail
    go_roundw
    case rel => exact ⟨k + 1, acc, by go_num, by omega, by omega, he2, Hnil.out, hor, hbv, hb⟩
    case measure => simp [intOf]; omega
  ·have he2 : acc = R := by
    rw [he.out, HR.out, List.take_of_length_le (by rw [List.length_zip]; omega)]
   subst he2
   have Hor := Lib.hid hor
   have hbl := hbv.lt
   clear he hor
   go_wp2_with fail
   go_ret
   exact ⟨_, rfl, Hor.out, Hnil.out, hbl, hb⟩
end Go.Proofs.YtfidfakcbjoilaaGreatDoor
