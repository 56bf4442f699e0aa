/- The walks of the document's own SameType and SameBook, at what is alike. -/
import Derived.Test.YtihdnjnhhhafkaaGreatDoorRefA
import Derived.Test.YtihdnjnhhhafkaaGreatDoorBase
import Derived.Test.YtihdnjnhhhafkaaGreatDoorLates
import Derived.Deep.Light
set_option linter.all false
set_option maxRecDepth 100000
set_option maxHeartbeats 8000000
namespace Go.Proofs.YtihdnjnhhhafkaaGreatDoor
open Go.RowKit
theorem field_guardR : Tryz.prog.eqGuardType Tryz.prog.depth 43 = false := by kernel_rfl
theorem field_fieldsR : Tryz.prog.underlying 43 = some (.struct (Tryz.prog.fieldsOf 43)) := by kernel_rfl
theorem field_heldR : Tryz.prog.stoodInHeld 43 = false := by kernel_rfl
theorem toList_injR {a b : ByteArray} : (a.toList = b.toList) ↔ a = b := by
 rw [ByteArray.toList_eq, ByteArray.toList_eq]
 obtain ⟨⟨l⟩⟩ := a
 obtain ⟨⟨l'⟩⟩ := b
 simp
theorem item_guardR : Tryz.prog.eqGuardType Tryz.prog.depth 62 = false := by kernel_rfl
theorem item_fieldsR : Tryz.prog.underlying 62 = some (.struct (Tryz.prog.fieldsOf 62)) := by kernel_rfl
theorem item_heldR : Tryz.prog.stoodInHeld 62 = false := by kernel_rfl
theorem run_neq_fieldR (p : FieldD) (W : World) : (binOp .neq 43 (.agg #[.int .i64 p.id, .string p.name, .string p.type, .int .i64 p.kind, .int .i64 p.rule]) (.agg #[.int .i64 p.id, .string p.name, .string p.type, .int .i64 p.kind, .int .i64 p.rule])).run Tryz.prog W = .ok (.bool false) W := by
 have h := run_equalIn_agg (P := Tryz.prog) W 9999 43 #[.int .i64 p.id, .string p.name, .string p.type, .int .i64 p.kind, .int .i64 p.rule] #[.int .i64 p.id, .string p.name, .string p.type, .int .i64 p.kind, .int .i64 p.rule] field_fieldsR field_heldR
 rw [run_neq_struct, h]
 simp [go_sem]
theorem run_neq_itemR (p : ItemD) (W : World) : (binOp .neq 62 (.agg #[.string p.name, .int .i64 p.n]) (.agg #[.string p.name, .int .i64 p.n])).run Tryz.prog W = .ok (.bool false) W := by
 have h := run_equalIn_agg (P := Tryz.prog) W 9999 62 #[.string p.name, .int .i64 p.n] #[.string p.name, .int .i64 p.n] item_fieldsR item_heldR
 rw [run_neq_struct, h]
 simp [go_sem]
theorem sameType_anyR (S S' : Nat → Prop) (cs cs' : List Value) (t : TypeD) (w : World) (ht : RType S w cs t) (ht' : RType S' w cs' t) : Calls Tryz.prog 21 #[.agg cs.toArray, .agg cs'.toArray] w (Ret w (.bool true)) := by
 obtain ⟨P2, p2, P3, p3, P4, p4, rfl, hF, hG, hI⟩ := ht.parts
 obtain ⟨Q2, q2, Q3, q3, Q4, q4, rfl, hF', hG', hI'⟩ := ht'.parts
 obtain ⟨_, _, hff, hfc, hfb⟩ := hF.form
 obtain ⟨_, _, hgg, hgc, hgb⟩ := hG.form
 obtain ⟨_, _, hii, hic, hib⟩ := hI.form
 have HF := Lib.hid hF
 have HF' := Lib.hid hF'
 have HG := Lib.hid hG
 have HG' := Lib.hid hG'
 have HI := Lib.hid hI
 have HI' := Lib.hid hI'
 obtain ⟨z1, z2, hb⟩ := boxes2 w [.string t.name, .bool t.enum, .slice P2 t.fields.length p2, .slice P3 t.gone.length p3, .slice P4 t.items.length p4] [.string t.name, .bool t.enum, .slice Q2 t.fields.length q2, .slice Q3 t.gone.length q3, .slice Q4 t.items.length q4] 38 38
 clear ht ht' hF hF' hG hG' hI hI' hff hgg hii hfc hgc hic
 go_enter Tryz.func21, Tryz.ntmps21
 go_wp2_with fail
 go_loopw [50] (fun i wr => ∃ k : Nat, i = .int .i64 k ∧ k ≤ t.fields.length ∧ Box wr w.heap.size 38 [.string t.name, .bool t.enum, .slice P2 t.fields.length p2, .slice P3 t.gone.length p3, .slice P4 t.items.length p4] ∧ Box wr (w.heap.size + 1) 38 [.string t.name, .bool t.enum, .slice Q2 t.fields.length q2, .slice Q3 t.gone.length q3, .slice Q4 t.items.length q4] ∧ Below w.heap.size w wr) (fun i _ => t.fields.length - (intOf i).toNat)
 case atStart => exact ⟨0, rfl, by omega, z1, z2, hb⟩
 case round =>
  clear z1 z2 hb
  obtain ⟨k, rfl, hk, z1, z2, hb⟩ := hrel
  have m1 : wr.cell? ⟨w.heap.size, 2, none⟩ = some (.slice P2 t.fields.length p2) := z1.cell 2
  have m2 : wr.cell? ⟨w.heap.size + 1, 2, none⟩ = some (.slice Q2 t.fields.length q2) := z2.cell 2
  have l1 := z1.lt
  have l2 := z2.lt
  by_cases hlt : k < t.fields.length
  ·obtain ⟨g, o, es, hA, hS, hg, hes, hr, hc⟩ := ((RSl.fair RField.fair).below HF.out hb).at_ hlt
   obtain ⟨g', o', es', hA', hS', hg', hes', hr', hc'⟩ := ((RSl.fair RField.fair).below HF'.out hb).at_ hlt
   rw [hA] at m1
   rw [hA'] at m2
   obtain ⟨p, hpe⟩ : ∃ p, p = t.fields[k] := ⟨_, rfl⟩
   rw [← hpe] at hr hr'
   clear hpe
   have e1 : es = fieldCells p := hr
   have e2 : es' = fieldCells p := hr'
   subst e1 e2
   have c0 : wr.cell? ⟨g, o + k * 5, none⟩ = some (.int .i64 p.id) := hc.at_ 0 rfl
   have d0 : wr.cell? ⟨g', o' + k * 5, none⟩ = some (.int .i64 p.id) := hc'.at_ 0 rfl
   have c1 : wr.cell? ⟨g, o + k * 5 + 1, none⟩ = some (.string p.name) := hc.at_ 1 rfl
   have d1 : wr.cell? ⟨g', o' + k * 5 + 1, none⟩ = some (.string p.name) := hc'.at_ 1 rfl
   have c2 : wr.cell? ⟨g, o + k * 5 + 2, none⟩ = some (.string p.type) := hc.at_ 2 rfl
   have d2 : wr.cell? ⟨g', o' + k * 5 + 2, none⟩ = some (.string p.type) := hc'.at_ 2 rfl
   have c3 : wr.cell? ⟨g, o + k * 5 + 3, none⟩ = some (.int .i64 p.kind) := hc.at_ 3 rfl
   have d3 : wr.cell? ⟨g', o' + k * 5 + 3, none⟩ = some (.int .i64 p.kind) := hc'.at_ 3 rfl
   have c4 : wr.cell? ⟨g, o + k * 5 + 4, none⟩ = some (.int .i64 p.rule) := hc.at_ 4 rfl
   have d4 : wr.cell? ⟨g', o' + k * 5 + 4, none⟩ = some (.int .i64 p.rule) := hc'.at_ 4 rfl
   have hgd := field_guardR
   have hneq := fun W => run_neq_fieldR p W
   clear hr hr' hc hc' hes hes' hS hS' hA hA'
   go_wp2_with fail
   go_quiet (fail)
   go_wp2_with fail
   go_roundw
   case rel => exact ⟨k + 1, by go_num, by omega, z1.drewN _, z2.drewN _, below_drewN hb _⟩
   case measure => simp [intOf]; omega
  ·have m1 : wr.cell? ⟨w.heap.size, 3, none⟩ = some (.slice P3 t.gone.length p3) := z1.cell 3
   clear m2
   go_wp2_with fail
   go_loopw [68] (fun i wr => ∃ k : Nat, i = .int .i64 k ∧ k ≤ t.gone.length ∧ Box wr w.heap.size 38 [.string t.name, .bool t.enum, .slice P2 t.fields.length p2, .slice P3 t.gone.length p3, .slice P4 t.items.length p4] ∧ Box wr (w.heap.size + 1) 38 [.string t.name, .bool t.enum, .slice Q2 t.fields.length q2, .slice Q3 t.gone.length q3, .slice Q4 t.items.length q4] ∧ Below w.heap.size w wr) (fun i _ => t.gone.length - (intOf i).toNat)
   case atStart => exact ⟨0, rfl, by omega, z1, z2, hb⟩
   case round =>
    clear z1 z2 hb
    obtain ⟨k, rfl, hk, z1, z2, hb⟩ := hrel
    have m1 : wr.cell? ⟨w.heap.size, 3, none⟩ = some (.slice P3 t.gone.length p3) := z1.cell 3
    have m2 : wr.cell? ⟨w.heap.size + 1, 3, none⟩ = some (.slice Q3 t.gone.length q3) := z2.cell 3
    have l1 := z1.lt
    have l2 := z2.lt
    by_cases hlt : k < t.gone.length
    ·obtain ⟨g, o, es, hA, hS, hg, hes, hr, hc⟩ := ((RSl.fair RInt.fair).below HG.out hb).at_ hlt
     obtain ⟨g', o', es', hA', hS', hg', hes', hr', hc'⟩ := ((RSl.fair RInt.fair).below HG'.out hb).at_ hlt
     rw [hA] at m1
     rw [hA'] at m2
     obtain ⟨p, hpe⟩ : ∃ p, p = t.gone[k] := ⟨_, rfl⟩
     rw [← hpe] at hr hr'
     clear hpe
     have e1 : es = [.int .i64 p] := hr
     have e2 : es' = [.int .i64 p] := hr'
     subst e1 e2
     have c0 : wr.cell? ⟨g, o + k, none⟩ = some (.int .i64 p) := by have := hc.at_ 0 rfl; simpa using this
     have d0 : wr.cell? ⟨g', o' + k, none⟩ = some (.int .i64 p) := by have := hc'.at_ 0 rfl; simpa using this
     clear hr hr' hc hc' hes hes' hS hS' hA hA'
     go_wp2_with fail
     go_quiet (fail)
     go_wp2_with fail
     go_roundw
     case rel => exact ⟨k + 1, by go_num, by omega, z1.drewN _, z2.drewN _, below_drewN hb _⟩
     case measure => simp [intOf]; omega
    ·have m1 : wr.cell? ⟨w.heap.size, 4, none⟩ = some (.slice P4 t.items.length p4) := z1.cell 4
     clear m2
     go_wp2_with fail
     go_loopw [86] (fun i wr => ∃ k : Nat, i = .int .i64 k ∧ k ≤ t.items.length ∧ Box wr w.heap.size 38 [.string t.name, .bool t.enum, .slice P2 t.fields.length p2, .slice P3 t.gone.length p3, .slice P4 t.items.length p4] ∧ Box wr (w.heap.size + 1) 38 [.string t.name, .bool t.enum, .slice Q2 t.fields.length q2, .slice Q3 t.gone.length q3, .slice Q4 t.items.length q4] ∧ Below w.heap.size w wr) (fun i _ => t.items.length - (intOf i).toNat)
     case atStart => exact ⟨0, rfl, by omega, z1, z2, hb⟩
     case round =>
      clear z1 z2 hb
      obtain ⟨k, rfl, hk, z1, z2, hb⟩ := hrel
      have m1 : wr.cell? ⟨w.heap.size, 4, none⟩ = some (.slice P4 t.items.length p4) := z1.cell 4
      have m2 : wr.cell? ⟨w.heap.size + 1, 4, none⟩ = some (.slice Q4 t.items.length q4) := z2.cell 4
      have l1 := z1.lt
      have l2 := z2.lt
      by_cases hlt : k < t.items.length
      ·obtain ⟨g, o, es, hA, hS, hg, hes, hr, hc⟩ := ((RSl.fair RItem.fair).below HI.out hb).at_ hlt
       obtain ⟨g', o', es', hA', hS', hg', hes', hr', hc'⟩ := ((RSl.fair RItem.fair).below HI'.out hb).at_ hlt
       rw [hA] at m1
       rw [hA'] at m2
       obtain ⟨p, hpe⟩ : ∃ p, p = t.items[k] := ⟨_, rfl⟩
       rw [← hpe] at hr hr'
       clear hpe
       have e1 : es = itemCells p := hr
       have e2 : es' = itemCells p := hr'
       subst e1 e2
       have c0 : wr.cell? ⟨g, o + k * 2, none⟩ = some (.string p.name) := hc.at_ 0 rfl
       have d0 : wr.cell? ⟨g', o' + k * 2, none⟩ = some (.string p.name) := hc'.at_ 0 rfl
       have c1 : wr.cell? ⟨g, o + k * 2 + 1, none⟩ = some (.int .i64 p.n) := hc.at_ 1 rfl
       have d1 : wr.cell? ⟨g', o' + k * 2 + 1, none⟩ = some (.int .i64 p.n) := hc'.at_ 1 rfl
       have hgd := item_guardR
       have hneq := fun W => run_neq_itemR p W
       clear hr hr' hc hc' hes hes' hS hS' hA hA'
       go_wp2_with fail
       go_quiet (fail)
       go_wp2_with fail
       go_roundw
       case rel => exact ⟨k + 1, by go_num, by omega, z1.drewN _, z2.drewN _, below_drewN hb _⟩
       case measure => simp [intOf]; omega
      ·go_wp2_with fail
       go_ret
       exact ⟨rfl, hb⟩
theorem sameBook_anyR (S S' : Nat → Prop) (v v' : Value) (b : BookD) (w : World) (h1 : RSl 5 96 RType S w [v] b) (h2 : RSl 5 96 RType S' w [v'] b) : Calls Tryz.prog 7 #[.agg #[v], .agg #[v']] w (Ret w (.bool true)) := by
 obtain ⟨A, d1, rfl, hlc, hlb⟩ := h1.form
 obtain ⟨A', d2, rfl, hlc', hlb'⟩ := h2.form
 have HL := Lib.hid h1
 have HL' := Lib.hid h2
 obtain ⟨z1, z2, hb⟩ := boxes2 w [.slice A b.length d1] [.slice A' b.length d2] 24 24
 clear h1 h2
 go_enter Tryz.func7, Tryz.ntmps7
 go_wp2_with fail
 go_loopw [16] (fun i wr => ∃ k : Nat, i = .int .i64 k ∧ k ≤ b.length ∧ Box wr w.heap.size 24 [.slice A b.length d1] ∧ Box wr (w.heap.size + 1) 24 [.slice A' b.length d2] ∧ Below w.heap.size w wr) (fun i _ => b.length - (intOf i).toNat)
 case atStart => exact ⟨0, rfl, by omega, z1, z2, hb⟩
 case round =>
  clear z1 z2 hb
  obtain ⟨k, rfl, hk, z1, z2, hb⟩ := hrel
  by_cases hlt : k < b.length
  ·obtain ⟨lg, lo, rfl, hSl, hgl⟩ := HL.out.base (by omega)
   obtain ⟨mg, mo, rfl, hSm, hgm⟩ := HL'.out.base (by omega)
   obtain ⟨es, _, hrx, hlx⟩ := HL.out.lies hlt
   obtain ⟨fs, _, hry, hly⟩ := HL'.out.lies hlt
   obtain ⟨t, ht⟩ : ∃ t, t = b[k] := ⟨_, rfl⟩
   rw [← ht] at hrx hry
   obtain ⟨P2, p2, P3, p3, P4, p4, rfl, -, -, -⟩ := hrx.parts
   obtain ⟨Q2, q2, Q3, q3, Q4, q4, rfl, -, -, -⟩ := hry.parts
   have hc := hlx.keep (Keep.of_below (below_drew hb)) hSl
   have hd := hly.keep (Keep.of_below (below_drew hb)) hSm
   have hw' := below_drew hb
   have z1' := z1.drew
   have z2' := z2.drew
   have HRx := Lib.hid (RType.fair.below hrx hw')
   have HRy := Lib.hid (RType.fair.below hry hw')
   have hS : (fun W' : World => W'.cell? ⟨w.heap.size, 0, none⟩ = some (.slice (some ⟨lg, lo, none⟩) b.length d1) ∧ (W'.cell? ⟨lg, lo + k * 5, none⟩ = some (.string t.name) ∧ W'.cell? ⟨lg, lo + k * 5 + 1, none⟩ = some (.bool t.enum) ∧ W'.cell? ⟨lg, lo + k * 5 + 2, none⟩ = some (.slice P2 t.fields.length p2) ∧ W'.cell? ⟨lg, lo + k * 5 + 3, none⟩ = some (.slice P3 t.gone.length p3) ∧ W'.cell? ⟨lg, lo + k * 5 + 4, none⟩ = some (.slice P4 t.items.length p4)) ∧ W'.cell? ⟨w.heap.size + 1, 0, none⟩ = some (.slice (some ⟨mg, mo, none⟩) b.length d2) ∧ (W'.cell? ⟨mg, mo + k * 5, none⟩ = some (.string t.name) ∧ W'.cell? ⟨mg, mo + k * 5 + 1, none⟩ = some (.bool t.enum) ∧ W'.cell? ⟨mg, mo + k * 5 + 2, none⟩ = some (.slice Q2 t.fields.length q2) ∧ W'.cell? ⟨mg, mo + k * 5 + 3, none⟩ = some (.slice Q3 t.gone.length q3) ∧ W'.cell? ⟨mg, mo + k * 5 + 4, none⟩ = some (.slice Q4 t.items.length q4))) wr.drew :=
    ⟨z1.cell 0, ⟨hc.at_ 0 rfl, hc.at_ 1 rfl, hc.at_ 2 rfl, hc.at_ 3 rfl, hc.at_ 4 rfl⟩, z2.cell 0, ⟨hd.at_ 0 rfl, hd.at_ 1 rfl, hd.at_ 2 rfl, hd.at_ 3 rfl, hd.at_ 4 rfl⟩⟩
   clear hrx hry hlx hly ht hc hd z1 z2 hb
   go_wp2_with fail
   refine late_start (lt := 10) (hm := by kernel_rfl) (h := ?_) (S := fun W' : World => W'.cell? ⟨w.heap.size, 0, none⟩ = some (.slice (some ⟨lg, lo, none⟩) b.length d1) ∧ (W'.cell? ⟨lg, lo + k * 5, none⟩ = some (.string t.name) ∧ W'.cell? ⟨lg, lo + k * 5 + 1, none⟩ = some (.bool t.enum) ∧ W'.cell? ⟨lg, lo + k * 5 + 2, none⟩ = some (.slice P2 t.fields.length p2) ∧ W'.cell? ⟨lg, lo + k * 5 + 3, none⟩ = some (.slice P3 t.gone.length p3) ∧ W'.cell? ⟨lg, lo + k * 5 + 4, none⟩ = some (.slice P4 t.items.length p4)) ∧ W'.cell? ⟨w.heap.size + 1, 0, none⟩ = some (.slice (some ⟨mg, mo, none⟩) b.length d2) ∧ (W'.cell? ⟨mg, mo + k * 5, none⟩ = some (.string t.name) ∧ W'.cell? ⟨mg, mo + k * 5 + 1, none⟩ = some (.bool t.enum) ∧ W'.cell? ⟨mg, mo + k * 5 + 2, none⟩ = some (.slice Q2 t.fields.length q2) ∧ W'.cell? ⟨mg, mo + k * 5 + 3, none⟩ = some (.slice Q3 t.gone.length q3) ∧ W'.cell? ⟨mg, mo + k * 5 + 4, none⟩ = some (.slice Q4 t.items.length q4)))
   refine tkL 0 hS ?_
   try simp only [pu]
   refine tkL 1 hS ?_
   try simp only [pu]
   refine tkL 2 hS ?_
   try simp only [pu]
   refine tkL 3 hS ?_
   try simp only [pu]
   refine tkL 4 hS ?_
   try simp only [pu]
   refine tkL 5 hS ?_
   try simp only [pu]
   refine tkL 6 hS ?_
   try simp only [pu]
   refine tkL 7 hS ?_
   try simp only [pu]
   refine tkL 8 hS ?_
   try simp only [pu]
   refine tkL 9 hS ?_
   try simp only [pu]
   refine late_one (i := 10) rfl (by kernel_rfl) (fun K hK => ?_)
   go_simp
   refine (sameType_anyR _ _ _ _ t _ HRx.out HRy.out).mono ?_
   rintro e w3 ⟨rfl, hb3⟩
   refine hK.out _ _ (fun h => absurd h (by decide)) ?_
   clear hK K
   try simp only [pu]
   refine late_one (i := 11) rfl (by kernel_rfl) (fun K hK => ?_)
   go_simp
   refine hK.out _ _ (fun h => absurd h (by decide)) ?_
   clear hK K
   try simp only [pu]
   refine late_done (by kernel_rfl) ?_ _
   have hw3 := below_via hw' hb3 hw'.size
   have y1 := z1'.below hb3 z1'.lt
   have y2 := z2'.below hb3 z2'.lt
   clear hS hb3 z1' z2' hw'
   go_wp2_with fail
   go_roundw
   case rel => exact ⟨k + 1, by go_num, by go_light; omega, y1, y2, hw3⟩
   case measure => go_light; simp [intOf]; omega
  ·go_wp2_with fail
   go_ret
   exact ⟨rfl, hb⟩
end Go.Proofs.YtihdnjnhhhafkaaGreatDoor
