/- The walk of the document's own SameValue, at what is alike. -/
import Derived.Test.YtfidfakcbjoilaaGreatDoorRefSameB
import Derived.Test.YtfidfakcbjoilaaGreatDoorRefSize
import Derived.Test.YtfidfakcbjoilaaGreatDoorLates
import Derived.Test.YtfidfakcbjoilaaGreatDoorBase
import Derived.Test.YtfidfakcbjoilaaGreatDoorValueLeast
import Derived.Deep.Light
set_option linter.all false
set_option maxRecDepth 100000
set_option maxHeartbeats 8000000
namespace Go.Proofs.YtfidfakcbjoilaaGreatDoor
open Go.RowKit
def SameAtR (S S' : Nat → Prop) (d : Nat) : Prop := ∀ (cs cs' : List Value) (v : ValueD) (w : World), depthV v ≤ d → RVal S w cs v → RVal S' w cs' v →
 Calls Tryz.prog 14 #[.agg cs.toArray, .agg cs'.toArray] w (Ret w (.bool true))
theorem same_succR (S S' : Nat → Prop) (d : Nat) (IH0 : SameAtR S S' d) : SameAtR S S' (d + 1) := by
 intro cs cs' v w hd hr hr'
 obtain ⟨kind, n, s, ids, l⟩ := v
 obtain ⟨I1, d1, I2, d2, rfl, hri, hrl⟩ := hr.parts
 obtain ⟨J1, h1, J2, h2, rfl, hri', hrl'⟩ := hr'.parts
 obtain ⟨_, _, _, hic, hib⟩ := hri.form
 obtain ⟨_, _, _, hlc, hlb⟩ := hrl.form
 have IH := Lib.hid IH0
 have HI := Lib.hid hri
 have HL := Lib.hid hrl
 have HI' := Lib.hid hri'
 have HL' := Lib.hid hrl'
 rw [depthV] at hd
 have HD := Lib.hid (fun x (hx : x ∈ l) => (show depthV x ≤ d from by have := depthL_mem' hx; omega))
 obtain ⟨x1, x2, x3⟩ := boxes2 w [.int .i64 kind, .int .i64 n, .string s, .slice I1 ids.length d1, .slice I2 l.length d2] [.int .i64 kind, .int .i64 n, .string s, .slice J1 ids.length h1, .slice J2 l.length h2] 37 37
 clear hr hr' hri hrl hri' hrl' hd
 go_enter Tryz.func14, Tryz.ntmps14
 go_wp2_with fail
 go_loopw [47] (fun i wr => ∃ k : Nat, i = .int .i64 k ∧ k ≤ ids.length ∧ Box wr w.heap.size 37 [.int .i64 kind, .int .i64 n, .string s, .slice I1 ids.length d1, .slice I2 l.length d2] ∧ Box wr (w.heap.size + 1) 37 [.int .i64 kind, .int .i64 n, .string s, .slice J1 ids.length h1, .slice J2 l.length h2] ∧ Below w.heap.size w wr) (fun i _ => ids.length - (intOf i).toNat)
 case atStart => exact ⟨0, rfl, by go_light; omega, x1, x2, x3⟩
 case round =>
  obtain ⟨k, rfl, hk, z1, z2, hb⟩ := hrel
  clear x1 x2 x3
  by_cases hlt : k < ids.length
  ·obtain ⟨ig, io, rfl, hSi, hgi⟩ := HI.out.base (by go_light; omega)
   obtain ⟨jg, jo, rfl, hSj, hgj⟩ := HI'.out.base (by go_light; omega)
   have hci := (HI.out.flat (enc := fun x : Int => [.int .i64 x]) hlt).keep (Keep.of_below hb) hSi
   have hcj := (HI'.out.flat (enc := fun x : Int => [.int .i64 x]) hlt).keep (Keep.of_below hb) hSj
   obtain ⟨x, hx⟩ : ∃ x, x = ids[k] := ⟨_, rfl⟩
   rw [← hx] at hci hcj
   have q0 : wr.cell? ⟨ig, io + k, none⟩ = some (.int .i64 x) := by have := hci.at_ 0 rfl; simpa using this
   have p0 : wr.cell? ⟨jg, jo + k, none⟩ = some (.int .i64 x) := by have := hcj.at_ 0 rfl; simpa using this
   have hS : wr.drew.cell? ⟨w.heap.size, 3, none⟩ = some (.slice (some ⟨ig, io, none⟩) ids.length d1) ∧ wr.drew.cell? ⟨ig, io + k, none⟩ = some (.int .i64 x) ∧ wr.drew.cell? ⟨w.heap.size + 1, 3, none⟩ = some (.slice (some ⟨jg, jo, none⟩) ids.length h1) ∧ wr.drew.cell? ⟨jg, jo + k, none⟩ = some (.int .i64 x) := ⟨z1.cell 3, q0, z2.cell 3, p0⟩
   have hw' := below_drew hb
   have z1' := z1.drew
   have z2' := z2.drew
   clear hci hcj q0 p0 hx z1 z2 hb
   go_wp2_with fail
   refine late_start (lt := 11) (hm := by kernel_rfl) (h := ?_) (S := fun W' => W'.cell? ⟨w.heap.size, 3, none⟩ = some (.slice (some ⟨ig, io, none⟩) ids.length d1) ∧ W'.cell? ⟨ig, io + k, none⟩ = some (.int .i64 x) ∧ W'.cell? ⟨w.heap.size + 1, 3, none⟩ = some (.slice (some ⟨jg, jo, none⟩) ids.length h1) ∧ W'.cell? ⟨jg, jo + k, none⟩ = some (.int .i64 x))
   refine tkL 0 hS ?_
   try simp only [pu]
   refine tkL 1 hS ?_
   try simp only [pu]
   refine tkL 2 hS ?_
   try simp only [pu]
   refine tkL 3 hS ?_
   try simp only [pu]
   refine tkL 4 hS ?_
   try simp only [pu]
   refine tkL 5 hS ?_
   try simp only [pu]
   refine tkL 6 hS ?_
   try simp only [pu]
   refine tkL 7 hS ?_
   try simp only [pu]
   refine tkL 8 hS ?_
   try simp only [pu]
   refine tkL 9 hS ?_
   try simp only [pu]
   refine tkL 10 hS ?_
   try simp only [pu]
   refine late_done (by kernel_rfl) ?_ _
   clear hS
   go_wp2_with fail
   go_roundw
   case rel => exact ⟨k + 1, by go_num, by go_light; omega, z1', z2', hw'⟩
   case measure => go_light; simp [intOf]; omega
  ·have c4 : wr.cell? ⟨w.heap.size, 4, none⟩ = some (.slice I2 l.length d2) := z1.cell 4
   have hl1 := z1.lt
   go_wp2_with fail
   clear c4 hl1
   go_loopw [65] (fun i wi => ∃ k : Nat, i = .int .i64 k ∧ k ≤ l.length ∧ Box wi w.heap.size 37 [.int .i64 kind, .int .i64 n, .string s, .slice I1 ids.length d1, .slice I2 l.length d2] ∧ Box wi (w.heap.size + 1) 37 [.int .i64 kind, .int .i64 n, .string s, .slice J1 ids.length h1, .slice J2 l.length h2] ∧ Below w.heap.size w wi) (fun i _ => l.length - (intOf i).toNat)
   case atStart => exact ⟨0, rfl, by go_light; omega, z1, z2, hb⟩
   case round =>
    clear z1 z2 hb hlt hk
    obtain ⟨j, rfl, hj, z1, z2, hb⟩ := hrel
    by_cases hjl : j < l.length
    ·obtain ⟨lg, lo, rfl, hSl, hgl⟩ := HL.out.base (by go_light; omega)
     obtain ⟨mg, mo, rfl, hSm, hgm⟩ := HL'.out.base (by go_light; omega)
     obtain ⟨es, _, hrx, hlx⟩ := HL.out.lies hjl
     obtain ⟨fs, _, hry, hly⟩ := HL'.out.lies hjl
     have hdx := HD.out l[j] (List.getElem_mem hjl)
     obtain ⟨x, hx⟩ : ∃ x, x = l[j] := ⟨_, rfl⟩
     rw [← hx] at hrx hry hdx
     obtain ⟨xk, xn, xs, xi, xl⟩ := x
     obtain ⟨E1, e1, E2, e2, rfl, _, _⟩ := hrx.parts
     obtain ⟨F1, f1, F2, f2, rfl, _, _⟩ := hry.parts
     have hc := hlx.keep (Keep.of_below (below_drew hb)) hSl
     have hd := hly.keep (Keep.of_below (below_drew hb)) hSm
     have hw' := below_drew hb
     have z1' := z1.drew
     have z2' := z2.drew
     have HRx := Lib.hid (RVal.fair.below hrx hw')
     have HRy := Lib.hid (RVal.fair.below hry hw')
     have HDx := Lib.hid hdx
     have hS : wr.drew.cell? ⟨w.heap.size, 4, none⟩ = some (.slice (some ⟨lg, lo, none⟩) l.length d2) ∧ (wr.drew.cell? ⟨lg, lo + j * 5, none⟩ = some (.int .i64 xk) ∧ wr.drew.cell? ⟨lg, lo + j * 5 + 1, none⟩ = some (.int .i64 xn) ∧ wr.drew.cell? ⟨lg, lo + j * 5 + 2, none⟩ = some (.string xs) ∧ wr.drew.cell? ⟨lg, lo + j * 5 + 3, none⟩ = some (.slice E1 xi.length e1) ∧ wr.drew.cell? ⟨lg, lo + j * 5 + 4, none⟩ = some (.slice E2 xl.length e2)) ∧
      wr.drew.cell? ⟨w.heap.size + 1, 4, none⟩ = some (.slice (some ⟨mg, mo, none⟩) l.length h2) ∧ (wr.drew.cell? ⟨mg, mo + j * 5, none⟩ = some (.int .i64 xk) ∧ wr.drew.cell? ⟨mg, mo + j * 5 + 1, none⟩ = some (.int .i64 xn) ∧ wr.drew.cell? ⟨mg, mo + j * 5 + 2, none⟩ = some (.string xs) ∧ wr.drew.cell? ⟨mg, mo + j * 5 + 3, none⟩ = some (.slice F1 xi.length f1) ∧ wr.drew.cell? ⟨mg, mo + j * 5 + 4, none⟩ = some (.slice F2 xl.length f2)) :=
      ⟨z1.cell 4, ⟨hc.at_ 0 rfl, hc.at_ 1 rfl, hc.at_ 2 rfl, hc.at_ 3 rfl, hc.at_ 4 rfl⟩, z2.cell 4, ⟨hd.at_ 0 rfl, hd.at_ 1 rfl, hd.at_ 2 rfl, hd.at_ 3 rfl, hd.at_ 4 rfl⟩⟩
     clear hrx hry hlx hly hdx hx hc hd z1 z2 hb
     go_wp2_with fail
     refine late_start (lt := 10) (hm := by kernel_rfl) (h := ?_) (S := fun W' => W'.cell? ⟨w.heap.size, 4, none⟩ = some (.slice (some ⟨lg, lo, none⟩) l.length d2) ∧ (W'.cell? ⟨lg, lo + j * 5, none⟩ = some (.int .i64 xk) ∧ W'.cell? ⟨lg, lo + j * 5 + 1, none⟩ = some (.int .i64 xn) ∧ W'.cell? ⟨lg, lo + j * 5 + 2, none⟩ = some (.string xs) ∧ W'.cell? ⟨lg, lo + j * 5 + 3, none⟩ = some (.slice E1 xi.length e1) ∧ W'.cell? ⟨lg, lo + j * 5 + 4, none⟩ = some (.slice E2 xl.length e2)) ∧
      W'.cell? ⟨w.heap.size + 1, 4, none⟩ = some (.slice (some ⟨mg, mo, none⟩) l.length h2) ∧ (W'.cell? ⟨mg, mo + j * 5, none⟩ = some (.int .i64 xk) ∧ W'.cell? ⟨mg, mo + j * 5 + 1, none⟩ = some (.int .i64 xn) ∧ W'.cell? ⟨mg, mo + j * 5 + 2, none⟩ = some (.string xs) ∧ W'.cell? ⟨mg, mo + j * 5 + 3, none⟩ = some (.slice F1 xi.length f1) ∧ W'.cell? ⟨mg, mo + j * 5 + 4, none⟩ = some (.slice F2 xl.length f2)))
     refine tkL 0 hS ?_
     try simp only [pu]
     refine tkL 1 hS ?_
     try simp only [pu]
     refine tkL 2 hS ?_
     try simp only [pu]
     refine tkL 3 hS ?_
     try simp only [pu]
     refine tkL 4 hS ?_
     try simp only [pu]
     refine tkL 5 hS ?_
     try simp only [pu]
     refine tkL 6 hS ?_
     try simp only [pu]
     refine tkL 7 hS ?_
     try simp only [pu]
     refine tkL 8 hS ?_
     try simp only [pu]
     refine tkL 9 hS ?_
     try simp only [pu]
     refine late_one (i := 10) rfl (by kernel_rfl) (fun K hK => ?_)
     go_simp
     refine (IH.out _ _ (.mk xk xn xs xi xl) _ HDx.out HRx.out HRy.out).mono ?_
     rintro e w3 ⟨rfl, hb3⟩
     refine hK.out _ _ (fun h => absurd h (by decide)) ?_
     clear hK K
     try simp only [pu]
     refine late_one (i := 11) rfl (by kernel_rfl) (fun K hK => ?_)
     go_simp
     refine hK.out _ _ (fun h => absurd h (by decide)) ?_
     clear hK K
     try simp only [pu]
     refine late_done (by kernel_rfl) ?_ _
     have hw3 := below_via hw' hb3 hw'.size
     have y1 := z1'.below hb3 z1'.lt
     have y2 := z2'.below hb3 z2'.lt
     clear hS hb3 z1' z2' hw'
     go_wp2_with fail
     go_roundw
     case rel => exact ⟨j + 1, by go_num, by go_light; omega, y1, y2, hw3⟩
     case measure => go_light; simp [intOf]; omega
    ·go_wp2_with fail
     go_ret
     exact ⟨rfl, hb⟩
theorem same_anyR (S S' : Nat → Prop) : ∀ (d : Nat), SameAtR S S' d
 | 0 => fun _ _ v _ hd _ _ => by
  obtain ⟨kind, n, s, ids, l⟩ := v
  rw [depthV] at hd; omega
 | d + 1 => same_succR S S' d (same_anyR S S' d)
end Go.Proofs.YtfidfakcbjoilaaGreatDoor
