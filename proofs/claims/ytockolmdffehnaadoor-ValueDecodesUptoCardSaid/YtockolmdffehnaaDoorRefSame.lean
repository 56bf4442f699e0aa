/- The walks of the document's own SameType, SameBook and SameValue, at what is alike. -/
import Derived.Test.YtockolmdffehnaaDoorRefSize
import Derived.Test.YtockolmdffehnaaDoorLate
import Derived.Test.YtockolmdffehnaaDoorBase
import Derived.Test.YtockolmdffehnaaDoorValueLeast
import Derived.Deep.Light
namespace Go.Proofs.YtockolmdffehnaaDoor
open Go.RowKit
theorem field_guardR : Tryd.prog.eqGuardType Tryd.prog.depth 53 = false := by kernel_rfl
theorem field_fieldsR : Tryd.prog.underlying 53 = some (.struct (Tryd.prog.fieldsOf 53)) := by kernel_rfl
theorem field_heldR : Tryd.prog.stoodInHeld 53 = false := by kernel_rfl
theorem toList_injR {a b : ByteArray} : (a.toList = b.toList) ↔ a = b := by
  rw [ByteArray.toList_eq, ByteArray.toList_eq]
  obtain ⟨⟨l⟩⟩ := a
  obtain ⟨⟨l'⟩⟩ := b
  simp
theorem item_guardR : Tryd.prog.eqGuardType Tryd.prog.depth 85 = false := by kernel_rfl
theorem item_fieldsR : Tryd.prog.underlying 85 = some (.struct (Tryd.prog.fieldsOf 85)) := by kernel_rfl
theorem item_heldR : Tryd.prog.stoodInHeld 85 = false := by kernel_rfl
theorem run_neq_fieldR (p : FieldD) (W : World) : (binOp .neq 53 (.agg #[.int .i64 p.id, .string p.name, .string p.type, .int .i64 p.kind, .int .i64 p.rule]) (.agg #[.int .i64 p.id, .string p.name, .string p.type, .int .i64 p.kind, .int .i64 p.rule])).run Tryd.prog W = .ok (.bool false) W := by
  have h := run_equalIn_agg (P := Tryd.prog) W 9999 53 #[.int .i64 p.id, .string p.name, .string p.type, .int .i64 p.kind, .int .i64 p.rule] #[.int .i64 p.id, .string p.name, .string p.type, .int .i64 p.kind, .int .i64 p.rule] field_fieldsR field_heldR
  rw [run_neq_struct, h]
  simp [go_sem]
theorem run_neq_itemR (p : ItemD) (W : World) : (binOp .neq 85 (.agg #[.string p.name, .int .i64 p.n]) (.agg #[.string p.name, .int .i64 p.n])).run Tryd.prog W = .ok (.bool false) W := by
  have h := run_equalIn_agg (P := Tryd.prog) W 9999 85 #[.string p.name, .int .i64 p.n] #[.string p.name, .int .i64 p.n] item_fieldsR item_heldR
  rw [run_neq_struct, h]
  simp [go_sem]

set_option maxRecDepth 100000 in
set_option maxHeartbeats 4000000 in
theorem sameType_anyR (S S' : Nat → Prop) (cs cs' : List Value) (t : TypeD) (w : World) (ht : RType S w cs t) (ht' : RType S' w cs' t) : Calls Tryd.prog 41 #[.agg cs.toArray, .agg cs'.toArray] w (Ret w (.bool true)) := by
  obtain ⟨P2, p2, P3, p3, P4, p4, rfl, hF, hG, hI⟩ := ht.parts
  obtain ⟨Q2, q2, Q3, q3, Q4, q4, rfl, hF', hG', hI'⟩ := ht'.parts
  obtain ⟨_, _, hff, hfc, hfb⟩ := hF.form
  obtain ⟨_, _, hgg, hgc, hgb⟩ := hG.form
  obtain ⟨_, _, hii, hic, hib⟩ := hI.form
  have HF := Lib.hid hF
  have HF' := Lib.hid hF'
  have HG := Lib.hid hG
  have HG' := Lib.hid hG'
  have HI := Lib.hid hI
  have HI' := Lib.hid hI'
  obtain ⟨z1, z2, hb⟩ := boxes2 w [.string t.name, .bool t.enum, .slice P2 t.fields.length p2, .slice P3 t.gone.length p3, .slice P4 t.items.length p4] [.string t.name, .bool t.enum, .slice Q2 t.fields.length q2, .slice Q3 t.gone.length q3, .slice Q4 t.items.length q4] 51 51
  clear ht ht' hF hF' hG hG' hI hI' hff hgg hii hfc hgc hic
  go_enter Tryd.func41, Tryd.ntmps41
  go_wp2_with fail
  go_loopw [50] (fun i wr => ∃ k : Nat, i = .int .i64 k ∧ k ≤ t.fields.length ∧ Box wr w.heap.size 51 [.string t.name, .bool t.enum, .slice P2 t.fields.length p2, .slice P3 t.gone.length p3, .slice P4 t.items.length p4] ∧ Box wr (w.heap.size + 1) 51 [.string t.name, .bool t.enum, .slice Q2 t.fields.length q2, .slice Q3 t.gone.length q3, .slice Q4 t.items.length q4] ∧ Below w.heap.size w wr) (fun i _ => t.fields.length - (intOf i).toNat)
  case atStart => exact ⟨0, rfl, by omega, z1, z2, hb⟩
  case round =>
    clear z1 z2 hb
    obtain ⟨k, rfl, hk, z1, z2, hb⟩ := hrel
    have m1 : wr.cell? ⟨w.heap.size, 2, none⟩ = some (.slice P2 t.fields.length p2) := z1.cell 2
    have m2 : wr.cell? ⟨w.heap.size + 1, 2, none⟩ = some (.slice Q2 t.fields.length q2) := z2.cell 2
    have l1 := z1.lt
    have l2 := z2.lt
    by_cases hlt : k < t.fields.length
    · obtain ⟨g, o, es, hA, hS, hg, hes, hr, hc⟩ := ((RSl.fair RField.fair).below HF.out hb).at_ hlt
      obtain ⟨g', o', es', hA', hS', hg', hes', hr', hc'⟩ := ((RSl.fair RField.fair).below HF'.out hb).at_ hlt
      rw [hA] at m1
      rw [hA'] at m2
      obtain ⟨p, hpe⟩ : ∃ p, p = t.fields[k] := ⟨_, rfl⟩
      rw [← hpe] at hr hr'
      clear hpe
      have e1 : es = fieldCells p := hr
      have e2 : es' = fieldCells p := hr'
      subst e1 e2
      have c0 : wr.cell? ⟨g, o + k * 5, none⟩ = some (.int .i64 p.id) := hc.at_ 0 rfl
      have d0 : wr.cell? ⟨g', o' + k * 5, none⟩ = some (.int .i64 p.id) := hc'.at_ 0 rfl
      have c1 : wr.cell? ⟨g, o + k * 5 + 1, none⟩ = some (.string p.name) := hc.at_ 1 rfl
      have d1 : wr.cell? ⟨g', o' + k * 5 + 1, none⟩ = some (.string p.name) := hc'.at_ 1 rfl
      have c2 : wr.cell? ⟨g, o + k * 5 + 2, none⟩ = some (.string p.type) := hc.at_ 2 rfl
      have d2 : wr.cell? ⟨g', o' + k * 5 + 2, none⟩ = some (.string p.type) := hc'.at_ 2 rfl
      have c3 : wr.cell? ⟨g, o + k * 5 + 3, none⟩ = some (.int .i64 p.kind) := hc.at_ 3 rfl
      have d3 : wr.cell? ⟨g', o' + k * 5 + 3, none⟩ = some (.int .i64 p.kind) := hc'.at_ 3 rfl
      have c4 : wr.cell? ⟨g, o + k * 5 + 4, none⟩ = some (.int .i64 p.rule) := hc.at_ 4 rfl
      have d4 : wr.cell? ⟨g', o' + k * 5 + 4, none⟩ = some (.int .i64 p.rule) := hc'.at_ 4 rfl
      have hgd := field_guardR
      have hneq := fun W => run_neq_fieldR p W
      clear hr hr' hc hc' hes hes' hS hS' hA hA'
      go_wp2_with fail
      go_quiet (fail)
      go_wp2_with fail
      go_roundw
      case rel => exact ⟨k + 1, by go_num, by omega, z1.drewN _, z2.drewN _, below_drewN hb _⟩
      case measure => simp [intOf]; omega
    · have m1 : wr.cell? ⟨w.heap.size, 3, none⟩ = some (.slice P3 t.gone.length p3) := z1.cell 3
      clear m2
      go_wp2_with fail
      go_loopw [68] (fun i wr => ∃ k : Nat, i = .int .i64 k ∧ k ≤ t.gone.length ∧ Box wr w.heap.size 51 [.string t.name, .bool t.enum, .slice P2 t.fields.length p2, .slice P3 t.gone.length p3, .slice P4 t.items.length p4] ∧ Box wr (w.heap.size + 1) 51 [.string t.name, .bool t.enum, .slice Q2 t.fields.length q2, .slice Q3 t.gone.length q3, .slice Q4 t.items.length q4] ∧ Below w.heap.size w wr) (fun i _ => t.gone.length - (intOf i).toNat)
      case atStart => exact ⟨0, rfl, by omega, z1, z2, hb⟩
      case round =>
        clear z1 z2 hb
        obtain ⟨k, rfl, hk, z1, z2, hb⟩ := hrel
        have m1 : wr.cell? ⟨w.heap.size, 3, none⟩ = some (.slice P3 t.gone.length p3) := z1.cell 3
        have m2 : wr.cell? ⟨w.heap.size + 1, 3, none⟩ = some (.slice Q3 t.gone.length q3) := z2.cell 3
        have l1 := z1.lt
        have l2 := z2.lt
        by_cases hlt : k < t.gone.length
        · obtain ⟨g, o, es, hA, hS, hg, hes, hr, hc⟩ := ((RSl.fair RInt.fair).below HG.out hb).at_ hlt
          obtain ⟨g', o', es', hA', hS', hg', hes', hr', hc'⟩ := ((RSl.fair RInt.fair).below HG'.out hb).at_ hlt
          rw [hA] at m1
          rw [hA'] at m2
          obtain ⟨p, hpe⟩ : ∃ p, p = t.gone[k] := ⟨_, rfl⟩
          rw [← hpe] at hr hr'
          clear hpe
          have e1 : es = [.int .i64 p] := hr
          have e2 : es' = [.int .i64 p] := hr'
          subst e1 e2
          have c0 : wr.cell? ⟨g, o + k, none⟩ = some (.int .i64 p) := by have := hc.at_ 0 rfl; simpa using this
          have d0 : wr.cell? ⟨g', o' + k, none⟩ = some (.int .i64 p) := by have := hc'.at_ 0 rfl; simpa using this
          clear hr hr' hc hc' hes hes' hS hS' hA hA'
          go_wp2_with fail
          go_quiet (fail)
          go_wp2_with fail
          go_roundw
          case rel => exact ⟨k + 1, by go_num, by omega, z1.drewN _, z2.drewN _, below_drewN hb _⟩
          case measure => simp [intOf]; omega
        · have m1 : wr.cell? ⟨w.heap.size, 4, none⟩ = some (.slice P4 t.items.length p4) := z1.cell 4
          clear m2
          go_wp2_with fail
          go_loopw [86] (fun i wr => ∃ k : Nat, i = .int .i64 k ∧ k ≤ t.items.length ∧ Box wr w.heap.size 51 [.string t.name, .bool t.enum, .slice P2 t.fields.length p2, .slice P3 t.gone.length p3, .slice P4 t.items.length p4] ∧ Box wr (w.heap.size + 1) 51 [.string t.name, .bool t.enum, .slice Q2 t.fields.length q2, .slice Q3 t.gone.length q3, .slice Q4 t.items.length q4] ∧ Below w.heap.size w wr) (fun i _ => t.items.length - (intOf i).toNat)
          case atStart => exact ⟨0, rfl, by omega, z1, z2, hb⟩
          case round =>
            clear z1 z2 hb
            obtain ⟨k, rfl, hk, z1, z2, hb⟩ := hrel
            have m1 : wr.cell? ⟨w.heap.size, 4, none⟩ = some (.slice P4 t.items.length p4) := z1.cell 4
            have m2 : wr.cell? ⟨w.heap.size + 1, 4, none⟩ = some (.slice Q4 t.items.length q4) := z2.cell 4
            have l1 := z1.lt
            have l2 := z2.lt
            by_cases hlt : k < t.items.length
            · obtain ⟨g, o, es, hA, hS, hg, hes, hr, hc⟩ := ((RSl.fair RItem.fair).below HI.out hb).at_ hlt
              obtain ⟨g', o', es', hA', hS', hg', hes', hr', hc'⟩ := ((RSl.fair RItem.fair).below HI'.out hb).at_ hlt
              rw [hA] at m1
              rw [hA'] at m2
              obtain ⟨p, hpe⟩ : ∃ p, p = t.items[k] := ⟨_, rfl⟩
              rw [← hpe] at hr hr'
              clear hpe
              have e1 : es = itemCells p := hr
              have e2 : es' = itemCells p := hr'
              subst e1 e2
              have c0 : wr.cell? ⟨g, o + k * 2, none⟩ = some (.string p.name) := hc.at_ 0 rfl
              have d0 : wr.cell? ⟨g', o' + k * 2, none⟩ = some (.string p.name) := hc'.at_ 0 rfl
              have c1 : wr.cell? ⟨g, o + k * 2 + 1, none⟩ = some (.int .i64 p.n) := hc.at_ 1 rfl
              have d1 : wr.cell? ⟨g', o' + k * 2 + 1, none⟩ = some (.int .i64 p.n) := hc'.at_ 1 rfl
              have hgd := item_guardR
              have hneq := fun W => run_neq_itemR p W
              clear hr hr' hc hc' hes hes' hS hS' hA hA'
              go_wp2_with fail
              go_quiet (fail)
              go_wp2_with fail
              go_roundw
              case rel => exact ⟨k + 1, by go_num, by omega, z1.drewN _, z2.drewN _, below_drewN hb _⟩
              case measure => simp [intOf]; omega
            · go_wp2_with fail
              go_ret
              exact ⟨rfl, hb⟩
set_option maxRecDepth 100000 in
set_option maxHeartbeats 4000000 in
theorem sameBook_anyR (S S' : Nat → Prop) (v v' : Value) (b : BookD) (w : World) (h1 : RSl 5 96 RType S w [v] b) (h2 : RSl 5 96 RType S' w [v'] b) : Calls Tryd.prog 22 #[.agg #[v], .agg #[v']] w (Ret w (.bool true)) := by
  obtain ⟨A, d1, rfl, hlc, hlb⟩ := h1.form
  obtain ⟨A', d2, rfl, hlc', hlb'⟩ := h2.form
  have HL := Lib.hid h1
  have HL' := Lib.hid h2
  obtain ⟨z1, z2, hb⟩ := boxes2 w [.slice A b.length d1] [.slice A' b.length d2] 24 24
  clear h1 h2
  go_enter Tryd.func22, Tryd.ntmps22
  go_wp2_with fail
  go_loopw [16] (fun i wr => ∃ k : Nat, i = .int .i64 k ∧ k ≤ b.length ∧ Box wr w.heap.size 24 [.slice A b.length d1] ∧ Box wr (w.heap.size + 1) 24 [.slice A' b.length d2] ∧ Below w.heap.size w wr) (fun i _ => b.length - (intOf i).toNat)
  case atStart => exact ⟨0, rfl, by omega, z1, z2, hb⟩
  case round =>
    clear z1 z2 hb
    obtain ⟨k, rfl, hk, z1, z2, hb⟩ := hrel
    by_cases hlt : k < b.length
    · obtain ⟨lg, lo, rfl, hSl, hgl⟩ := HL.out.base (by omega)
      obtain ⟨mg, mo, rfl, hSm, hgm⟩ := HL'.out.base (by omega)
      obtain ⟨es, _, hrx, hlx⟩ := HL.out.lies hlt
      obtain ⟨fs, _, hry, hly⟩ := HL'.out.lies hlt
      obtain ⟨t, ht⟩ : ∃ t, t = b[k] := ⟨_, rfl⟩
      rw [← ht] at hrx hry
      obtain ⟨P2, p2, P3, p3, P4, p4, rfl, -, -, -⟩ := hrx.parts
      obtain ⟨Q2, q2, Q3, q3, Q4, q4, rfl, -, -, -⟩ := hry.parts
      have hc := hlx.keep (Keep.of_below (below_drew hb)) hSl
      have hd := hly.keep (Keep.of_below (below_drew hb)) hSm
      have hw' := below_drew hb
      have z1' := z1.drew
      have z2' := z2.drew
      have HRx := Lib.hid (RType.fair.below hrx hw')
      have HRy := Lib.hid (RType.fair.below hry hw')
      have hS : (fun W' : World => W'.cell? ⟨w.heap.size, 0, none⟩ = some (.slice (some ⟨lg, lo, none⟩) b.length d1) ∧ (W'.cell? ⟨lg, lo + k * 5, none⟩ = some (.string t.name) ∧ W'.cell? ⟨lg, lo + k * 5 + 1, none⟩ = some (.bool t.enum) ∧ W'.cell? ⟨lg, lo + k * 5 + 2, none⟩ = some (.slice P2 t.fields.length p2) ∧ W'.cell? ⟨lg, lo + k * 5 + 3, none⟩ = some (.slice P3 t.gone.length p3) ∧ W'.cell? ⟨lg, lo + k * 5 + 4, none⟩ = some (.slice P4 t.items.length p4)) ∧ W'.cell? ⟨w.heap.size + 1, 0, none⟩ = some (.slice (some ⟨mg, mo, none⟩) b.length d2) ∧ (W'.cell? ⟨mg, mo + k * 5, none⟩ = some (.string t.name) ∧ W'.cell? ⟨mg, mo + k * 5 + 1, none⟩ = some (.bool t.enum) ∧ W'.cell? ⟨mg, mo + k * 5 + 2, none⟩ = some (.slice Q2 t.fields.length q2) ∧ W'.cell? ⟨mg, mo + k * 5 + 3, none⟩ = some (.slice Q3 t.gone.length q3) ∧ W'.cell? ⟨mg, mo + k * 5 + 4, none⟩ = some (.slice Q4 t.items.length q4))) wr.drew :=
        ⟨z1.cell 0, ⟨hc.at_ 0 rfl, hc.at_ 1 rfl, hc.at_ 2 rfl, hc.at_ 3 rfl, hc.at_ 4 rfl⟩, z2.cell 0, ⟨hd.at_ 0 rfl, hd.at_ 1 rfl, hd.at_ 2 rfl, hd.at_ 3 rfl, hd.at_ 4 rfl⟩⟩
      clear hrx hry hlx hly ht hc hd z1 z2 hb
      go_wp2_with fail
      refine late_start (lt := 10) (hm := by kernel_rfl) (h := ?_) (S := fun W' : World => W'.cell? ⟨w.heap.size, 0, none⟩ = some (.slice (some ⟨lg, lo, none⟩) b.length d1) ∧ (W'.cell? ⟨lg, lo + k * 5, none⟩ = some (.string t.name) ∧ W'.cell? ⟨lg, lo + k * 5 + 1, none⟩ = some (.bool t.enum) ∧ W'.cell? ⟨lg, lo + k * 5 + 2, none⟩ = some (.slice P2 t.fields.length p2) ∧ W'.cell? ⟨lg, lo + k * 5 + 3, none⟩ = some (.slice P3 t.gone.length p3) ∧ W'.cell? ⟨lg, lo + k * 5 + 4, none⟩ = some (.slice P4 t.items.length p4)) ∧ W'.cell? ⟨w.heap.size + 1, 0, none⟩ = some (.slice (some ⟨mg, mo, none⟩) b.length d2) ∧ (W'.cell? ⟨mg, mo + k * 5, none⟩ = some (.string t.name) ∧ W'.cell? ⟨mg, mo + k * 5 + 1, none⟩ = some (.bool t.enum) ∧ W'.cell? ⟨mg, mo + k * 5 + 2, none⟩ = some (.slice Q2 t.fields.length q2) ∧ W'.cell? ⟨mg, mo + k * 5 + 3, none⟩ = some (.slice Q3 t.gone.length q3) ∧ W'.cell? ⟨mg, mo + k * 5 + 4, none⟩ = some (.slice Q4 t.items.length q4)))
      refine late_take (i := 0) (v := ?_) rfl (by kernel_rfl) (fun _ _ _ h => h) ⟨by kernel_rfl, ?_⟩ hS ?_
      rotate_left
      · (intro w hSw; (try dsimp only at hSw); go_simp; first | done | with_reducible rfl)
      try simp only [Act.put, List.getElem_toArray, List.getElem_cons_zero, List.getElem_cons_succ, List.setIfInBounds_toArray, List.set_cons_zero, List.set_cons_succ]
      refine late_take (i := 1) (v := ?_) rfl (by kernel_rfl) (fun _ _ _ h => h) ⟨by kernel_rfl, ?_⟩ hS ?_
      rotate_left
      · (intro w hSw; (try dsimp only at hSw); go_simp; first | done | with_reducible rfl)
      try simp only [Act.put, List.getElem_toArray, List.getElem_cons_zero, List.getElem_cons_succ, List.setIfInBounds_toArray, List.set_cons_zero, List.set_cons_succ]
      refine late_take (i := 2) (v := ?_) rfl (by kernel_rfl) (fun _ _ _ h => h) ⟨by kernel_rfl, ?_⟩ hS ?_
      rotate_left
      · (intro w hSw; (try dsimp only at hSw); go_simp; first | done | with_reducible rfl)
      try simp only [Act.put, List.getElem_toArray, List.getElem_cons_zero, List.getElem_cons_succ, List.setIfInBounds_toArray, List.set_cons_zero, List.set_cons_succ]
      refine late_take (i := 3) (v := ?_) rfl (by kernel_rfl) (fun _ _ _ h => h) ⟨by kernel_rfl, ?_⟩ hS ?_
      rotate_left
      · (intro w hSw; (try dsimp only at hSw); go_simp; first | done | with_reducible rfl)
      try simp only [Act.put, List.getElem_toArray, List.getElem_cons_zero, List.getElem_cons_succ, List.setIfInBounds_toArray, List.set_cons_zero, List.set_cons_succ]
      refine late_take (i := 4) (v := ?_) rfl (by kernel_rfl) (fun _ _ _ h => h) ⟨by kernel_rfl, ?_⟩ hS ?_
      rotate_left
      · (intro w hSw; (try dsimp only at hSw); go_simp; first | done | with_reducible rfl)
      try simp only [Act.put, List.getElem_toArray, List.getElem_cons_zero, List.getElem_cons_succ, List.setIfInBounds_toArray, List.set_cons_zero, List.set_cons_succ]
      refine late_take (i := 5) (v := ?_) rfl (by kernel_rfl) (fun _ _ _ h => h) ⟨by kernel_rfl, ?_⟩ hS ?_
      rotate_left
      · (intro w hSw; (try dsimp only at hSw); go_simp; first | done | with_reducible rfl)
      try simp only [Act.put, List.getElem_toArray, List.getElem_cons_zero, List.getElem_cons_succ, List.setIfInBounds_toArray, List.set_cons_zero, List.set_cons_succ]
      refine late_take (i := 6) (v := ?_) rfl (by kernel_rfl) (fun _ _ _ h => h) ⟨by kernel_rfl, ?_⟩ hS ?_
      rotate_left
      · (intro w hSw; (try dsimp only at hSw); go_simp; first | done | with_reducible rfl)
      try simp only [Act.put, List.getElem_toArray, List.getElem_cons_zero, List.getElem_cons_succ, List.setIfInBounds_toArray, List.set_cons_zero, List.set_cons_succ]
      refine late_take (i := 7) (v := ?_) rfl (by kernel_rfl) (fun _ _ _ h => h) ⟨by kernel_rfl, ?_⟩ hS ?_
      rotate_left
      · (intro w hSw; (try dsimp only at hSw); go_simp; first | done | with_reducible rfl)
      try simp only [Act.put, List.getElem_toArray, List.getElem_cons_zero, List.getElem_cons_succ, List.setIfInBounds_toArray, List.set_cons_zero, List.set_cons_succ]
      refine late_take (i := 8) (v := ?_) rfl (by kernel_rfl) (fun _ _ _ h => h) ⟨by kernel_rfl, ?_⟩ hS ?_
      rotate_left
      · (intro w hSw; (try dsimp only at hSw); go_simp; first | done | with_reducible rfl)
      try simp only [Act.put, List.getElem_toArray, List.getElem_cons_zero, List.getElem_cons_succ, List.setIfInBounds_toArray, List.set_cons_zero, List.set_cons_succ]
      refine late_take (i := 9) (v := ?_) rfl (by kernel_rfl) (fun _ _ _ h => h) ⟨by kernel_rfl, ?_⟩ hS ?_
      rotate_left
      · (intro w hSw; (try dsimp only at hSw); go_simp; first | done | with_reducible rfl)
      try simp only [Act.put, List.getElem_toArray, List.getElem_cons_zero, List.getElem_cons_succ, List.setIfInBounds_toArray, List.set_cons_zero, List.set_cons_succ]
      refine late_one (i := 10) rfl (by kernel_rfl) (fun K hK => ?_)
      go_simp
      refine (sameType_anyR _ _ _ _ t _ HRx.out HRy.out).mono ?_
      rintro e w3 ⟨rfl, hb3⟩
      refine hK.out _ _ (fun h => absurd h (by decide)) ?_
      clear hK K
      try simp only [Act.put, List.getElem_toArray, List.getElem_cons_zero, List.getElem_cons_succ, List.setIfInBounds_toArray, List.set_cons_zero, List.set_cons_succ]
      refine late_one (i := 11) rfl (by kernel_rfl) (fun K hK => ?_)
      go_simp
      refine hK.out _ _ (fun h => absurd h (by decide)) ?_
      clear hK K
      try simp only [Act.put, List.getElem_toArray, List.getElem_cons_zero, List.getElem_cons_succ, List.setIfInBounds_toArray, List.set_cons_zero, List.set_cons_succ]
      refine late_done (by kernel_rfl) ?_ _
      have hw3 := below_via hw' hb3 hw'.size
      have y1 := z1'.below hb3 z1'.lt
      have y2 := z2'.below hb3 z2'.lt
      clear hS hb3 z1' z2' hw'
      go_wp2_with fail
      go_roundw
      case rel => exact ⟨k + 1, by go_num, by go_light; omega, y1, y2, hw3⟩
      case measure => go_light; simp [intOf]; omega
    · go_wp2_with fail
      go_ret
      exact ⟨rfl, hb⟩

def SameAtR (S S' : Nat → Prop) (d : Nat) : Prop := ∀ (cs cs' : List Value) (v : ValueD) (w : World), depthV v ≤ d → RVal S w cs v → RVal S' w cs' v →
  Calls Tryd.prog 13 #[.agg cs.toArray, .agg cs'.toArray] w (Ret w (.bool true))

set_option maxRecDepth 100000 in
set_option maxHeartbeats 8000000 in
theorem same_succR (S S' : Nat → Prop) (d : Nat) (IH0 : SameAtR S S' d) : SameAtR S S' (d + 1) := by
  intro cs cs' v w hd hr hr'
  obtain ⟨kind, n, s, ids, l⟩ := v
  obtain ⟨I1, d1, I2, d2, rfl, hri, hrl⟩ := hr.parts
  obtain ⟨J1, h1, J2, h2, rfl, hri', hrl'⟩ := hr'.parts
  obtain ⟨_, _, _, hic, hib⟩ := hri.form
  obtain ⟨_, _, _, hlc, hlb⟩ := hrl.form
  have IH := Lib.hid IH0
  have HI := Lib.hid hri
  have HL := Lib.hid hrl
  have HI' := Lib.hid hri'
  have HL' := Lib.hid hrl'
  rw [depthV] at hd
  have HD := Lib.hid (fun x (hx : x ∈ l) => (show depthV x ≤ d from by have := depthL_mem' hx; omega))
  obtain ⟨x1, x2, x3⟩ := boxes2 w [.int .i64 kind, .int .i64 n, .string s, .slice I1 ids.length d1, .slice I2 l.length d2] [.int .i64 kind, .int .i64 n, .string s, .slice J1 ids.length h1, .slice J2 l.length h2] 28 28
  clear hr hr' hri hrl hri' hrl' hd
  go_enter Tryd.func13, Tryd.ntmps13
  go_wp2_with fail
  go_loopw [47] (fun i wr => ∃ k : Nat, i = .int .i64 k ∧ k ≤ ids.length ∧ Box wr w.heap.size 28 [.int .i64 kind, .int .i64 n, .string s, .slice I1 ids.length d1, .slice I2 l.length d2] ∧ Box wr (w.heap.size + 1) 28 [.int .i64 kind, .int .i64 n, .string s, .slice J1 ids.length h1, .slice J2 l.length h2] ∧ Below w.heap.size w wr) (fun i _ => ids.length - (intOf i).toNat)
  case atStart => exact ⟨0, rfl, by go_light; omega, x1, x2, x3⟩
  case round =>
    obtain ⟨k, rfl, hk, z1, z2, hb⟩ := hrel
    clear x1 x2 x3
    by_cases hlt : k < ids.length
    · obtain ⟨ig, io, rfl, hSi, hgi⟩ := HI.out.base (by go_light; omega)
      obtain ⟨jg, jo, rfl, hSj, hgj⟩ := HI'.out.base (by go_light; omega)
      have hci := (HI.out.flat (enc := fun x : Int => [.int .i64 x]) hlt).keep (Keep.of_below hb) hSi
      have hcj := (HI'.out.flat (enc := fun x : Int => [.int .i64 x]) hlt).keep (Keep.of_below hb) hSj
      obtain ⟨x, hx⟩ : ∃ x, x = ids[k] := ⟨_, rfl⟩
      rw [← hx] at hci hcj
      have q0 : wr.cell? ⟨ig, io + k, none⟩ = some (.int .i64 x) := by have := hci.at_ 0 rfl; simpa using this
      have p0 : wr.cell? ⟨jg, jo + k, none⟩ = some (.int .i64 x) := by have := hcj.at_ 0 rfl; simpa using this
      have hS : wr.drew.cell? ⟨w.heap.size, 3, none⟩ = some (.slice (some ⟨ig, io, none⟩) ids.length d1) ∧ wr.drew.cell? ⟨ig, io + k, none⟩ = some (.int .i64 x) ∧ wr.drew.cell? ⟨w.heap.size + 1, 3, none⟩ = some (.slice (some ⟨jg, jo, none⟩) ids.length h1) ∧ wr.drew.cell? ⟨jg, jo + k, none⟩ = some (.int .i64 x) := ⟨z1.cell 3, q0, z2.cell 3, p0⟩
      have hw' := below_drew hb
      have z1' := z1.drew
      have z2' := z2.drew
      clear hci hcj q0 p0 hx z1 z2 hb
      go_wp2_with fail
      refine late_start (lt := 11) (hm := by kernel_rfl) (h := ?_) (S := fun W' => W'.cell? ⟨w.heap.size, 3, none⟩ = some (.slice (some ⟨ig, io, none⟩) ids.length d1) ∧ W'.cell? ⟨ig, io + k, none⟩ = some (.int .i64 x) ∧ W'.cell? ⟨w.heap.size + 1, 3, none⟩ = some (.slice (some ⟨jg, jo, none⟩) ids.length h1) ∧ W'.cell? ⟨jg, jo + k, none⟩ = some (.int .i64 x))
      refine late_take (i := 0) (v := ?_) rfl (by kernel_rfl) (fun _ _ _ h => h) ⟨by kernel_rfl, ?_⟩ hS ?_
      rotate_left
      · (intro w hSw; (try dsimp only at hSw); go_simp; first | done | with_reducible rfl)
      try simp only [Act.put, List.getElem_toArray, List.getElem_cons_zero, List.getElem_cons_succ, List.setIfInBounds_toArray, List.set_cons_zero, List.set_cons_succ]
      refine late_take (i := 1) (v := ?_) rfl (by kernel_rfl) (fun _ _ _ h => h) ⟨by kernel_rfl, ?_⟩ hS ?_
      rotate_left
      · (intro w hSw; (try dsimp only at hSw); go_simp; first | done | with_reducible rfl)
      try simp only [Act.put, List.getElem_toArray, List.getElem_cons_zero, List.getElem_cons_succ, List.setIfInBounds_toArray, List.set_cons_zero, List.set_cons_succ]
      refine late_take (i := 2) (v := ?_) rfl (by kernel_rfl) (fun _ _ _ h => h) ⟨by kernel_rfl, ?_⟩ hS ?_
      rotate_left
      · (intro w hSw; (try dsimp only at hSw); go_simp; first | done | with_reducible rfl)
      try simp only [Act.put, List.getElem_toArray, List.getElem_cons_zero, List.getElem_cons_succ, List.setIfInBounds_toArray, List.set_cons_zero, List.set_cons_succ]
      refine late_take (i := 3) (v := ?_) rfl (by kernel_rfl) (fun _ _ _ h => h) ⟨by kernel_rfl, ?_⟩ hS ?_
      rotate_left
      · (intro w hSw; (try dsimp only at hSw); go_simp; first | done | with_reducible rfl)
      try simp only [Act.put, List.getElem_toArray, List.getElem_cons_zero, List.getElem_cons_succ, List.setIfInBounds_toArray, List.set_cons_zero, List.set_cons_succ]
      refine late_take (i := 4) (v := ?_) rfl (by kernel_rfl) (fun _ _ _ h => h) ⟨by kernel_rfl, ?_⟩ hS ?_
      rotate_left
      · (intro w hSw; (try dsimp only at hSw); go_simp; first | done | with_reducible rfl)
      try simp only [Act.put, List.getElem_toArray, List.getElem_cons_zero, List.getElem_cons_succ, List.setIfInBounds_toArray, List.set_cons_zero, List.set_cons_succ]
      refine late_take (i := 5) (v := ?_) rfl (by kernel_rfl) (fun _ _ _ h => h) ⟨by kernel_rfl, ?_⟩ hS ?_
      rotate_left
      · (intro w hSw; (try dsimp only at hSw); go_simp; first | done | with_reducible rfl)
      try simp only [Act.put, List.getElem_toArray, List.getElem_cons_zero, List.getElem_cons_succ, List.setIfInBounds_toArray, List.set_cons_zero, List.set_cons_succ]
      refine late_take (i := 6) (v := ?_) rfl (by kernel_rfl) (fun _ _ _ h => h) ⟨by kernel_rfl, ?_⟩ hS ?_
      rotate_left
      · (intro w hSw; (try dsimp only at hSw); go_simp; first | done | with_reducible rfl)
      try simp only [Act.put, List.getElem_toArray, List.getElem_cons_zero, List.getElem_cons_succ, List.setIfInBounds_toArray, List.set_cons_zero, List.set_cons_succ]
      refine late_take (i := 7) (v := ?_) rfl (by kernel_rfl) (fun _ _ _ h => h) ⟨by kernel_rfl, ?_⟩ hS ?_
      rotate_left
      · (intro w hSw; (try dsimp only at hSw); go_simp; first | done | with_reducible rfl)
      try simp only [Act.put, List.getElem_toArray, List.getElem_cons_zero, List.getElem_cons_succ, List.setIfInBounds_toArray, List.set_cons_zero, List.set_cons_succ]
      refine late_take (i := 8) (v := ?_) rfl (by kernel_rfl) (fun _ _ _ h => h) ⟨by kernel_rfl, ?_⟩ hS ?_
      rotate_left
      · (intro w hSw; (try dsimp only at hSw); go_simp; first | done | with_reducible rfl)
      try simp only [Act.put, List.getElem_toArray, List.getElem_cons_zero, List.getElem_cons_succ, List.setIfInBounds_toArray, List.set_cons_zero, List.set_cons_succ]
      refine late_take (i := 9) (v := ?_) rfl (by kernel_rfl) (fun _ _ _ h => h) ⟨by kernel_rfl, ?_⟩ hS ?_
      rotate_left
      · (intro w hSw; (try dsimp only at hSw); go_simp; first | done | with_reducible rfl)
      try simp only [Act.put, List.getElem_toArray, List.getElem_cons_zero, List.getElem_cons_succ, List.setIfInBounds_toArray, List.set_cons_zero, List.set_cons_succ]
      refine late_take (i := 10) (v := ?_) rfl (by kernel_rfl) (fun _ _ _ h => h) ⟨by kernel_rfl, ?_⟩ hS ?_
      rotate_left
      · (intro w hSw; (try dsimp only at hSw); go_simp; first | done | with_reducible rfl)
      try simp only [Act.put, List.getElem_toArray, List.getElem_cons_zero, List.getElem_cons_succ, List.setIfInBounds_toArray, List.set_cons_zero, List.set_cons_succ]
      refine late_done (by kernel_rfl) ?_ _
      clear hS
      go_wp2_with fail
      go_roundw
      case rel => exact ⟨k + 1, by go_num, by go_light; omega, z1', z2', hw'⟩
      case measure => go_light; simp [intOf]; omega
    · have c4 : wr.cell? ⟨w.heap.size, 4, none⟩ = some (.slice I2 l.length d2) := z1.cell 4
      have hl1 := z1.lt
      go_wp2_with fail
      clear c4 hl1
      go_loopw [65] (fun i wi => ∃ k : Nat, i = .int .i64 k ∧ k ≤ l.length ∧ Box wi w.heap.size 28 [.int .i64 kind, .int .i64 n, .string s, .slice I1 ids.length d1, .slice I2 l.length d2] ∧ Box wi (w.heap.size + 1) 28 [.int .i64 kind, .int .i64 n, .string s, .slice J1 ids.length h1, .slice J2 l.length h2] ∧ Below w.heap.size w wi) (fun i _ => l.length - (intOf i).toNat)
      case atStart => exact ⟨0, rfl, by go_light; omega, z1, z2, hb⟩
      case round =>
        clear z1 z2 hb hlt hk
        obtain ⟨j, rfl, hj, z1, z2, hb⟩ := hrel
        by_cases hjl : j < l.length
        · obtain ⟨lg, lo, rfl, hSl, hgl⟩ := HL.out.base (by go_light; omega)
          obtain ⟨mg, mo, rfl, hSm, hgm⟩ := HL'.out.base (by go_light; omega)
          obtain ⟨es, _, hrx, hlx⟩ := HL.out.lies hjl
          obtain ⟨fs, _, hry, hly⟩ := HL'.out.lies hjl
          have hdx := HD.out l[j] (List.getElem_mem hjl)
          obtain ⟨x, hx⟩ : ∃ x, x = l[j] := ⟨_, rfl⟩
          rw [← hx] at hrx hry hdx
          obtain ⟨xk, xn, xs, xi, xl⟩ := x
          obtain ⟨E1, e1, E2, e2, rfl, _, _⟩ := hrx.parts
          obtain ⟨F1, f1, F2, f2, rfl, _, _⟩ := hry.parts
          have hc := hlx.keep (Keep.of_below (below_drew hb)) hSl
          have hd := hly.keep (Keep.of_below (below_drew hb)) hSm
          have hw' := below_drew hb
          have z1' := z1.drew
          have z2' := z2.drew
          have HRx := Lib.hid (RVal.fair.below hrx hw')
          have HRy := Lib.hid (RVal.fair.below hry hw')
          have HDx := Lib.hid hdx
          have hS : wr.drew.cell? ⟨w.heap.size, 4, none⟩ = some (.slice (some ⟨lg, lo, none⟩) l.length d2) ∧ (wr.drew.cell? ⟨lg, lo + j * 5, none⟩ = some (.int .i64 xk) ∧ wr.drew.cell? ⟨lg, lo + j * 5 + 1, none⟩ = some (.int .i64 xn) ∧ wr.drew.cell? ⟨lg, lo + j * 5 + 2, none⟩ = some (.string xs) ∧ wr.drew.cell? ⟨lg, lo + j * 5 + 3, none⟩ = some (.slice E1 xi.length e1) ∧ wr.drew.cell? ⟨lg, lo + j * 5 + 4, none⟩ = some (.slice E2 xl.length e2)) ∧
            wr.drew.cell? ⟨w.heap.size + 1, 4, none⟩ = some (.slice (some ⟨mg, mo, none⟩) l.length h2) ∧ (wr.drew.cell? ⟨mg, mo + j * 5, none⟩ = some (.int .i64 xk) ∧ wr.drew.cell? ⟨mg, mo + j * 5 + 1, none⟩ = some (.int .i64 xn) ∧ wr.drew.cell? ⟨mg, mo + j * 5 + 2, none⟩ = some (.string xs) ∧ wr.drew.cell? ⟨mg, mo + j * 5 + 3, none⟩ = some (.slice F1 xi.length f1) ∧ wr.drew.cell? ⟨mg, mo + j * 5 + 4, none⟩ = some (.slice F2 xl.length f2)) :=
            ⟨z1.cell 4, ⟨hc.at_ 0 rfl, hc.at_ 1 rfl, hc.at_ 2 rfl, hc.at_ 3 rfl, hc.at_ 4 rfl⟩, z2.cell 4, ⟨hd.at_ 0 rfl, hd.at_ 1 rfl, hd.at_ 2 rfl, hd.at_ 3 rfl, hd.at_ 4 rfl⟩⟩
          clear hrx hry hlx hly hdx hx hc hd z1 z2 hb
          go_wp2_with fail
          refine late_start (lt := 10) (hm := by kernel_rfl) (h := ?_) (S := fun W' => W'.cell? ⟨w.heap.size, 4, none⟩ = some (.slice (some ⟨lg, lo, none⟩) l.length d2) ∧ (W'.cell? ⟨lg, lo + j * 5, none⟩ = some (.int .i64 xk) ∧ W'.cell? ⟨lg, lo + j * 5 + 1, none⟩ = some (.int .i64 xn) ∧ W'.cell? ⟨lg, lo + j * 5 + 2, none⟩ = some (.string xs) ∧ W'.cell? ⟨lg, lo + j * 5 + 3, none⟩ = some (.slice E1 xi.length e1) ∧ W'.cell? ⟨lg, lo + j * 5 + 4, none⟩ = some (.slice E2 xl.length e2)) ∧
            W'.cell? ⟨w.heap.size + 1, 4, none⟩ = some (.slice (some ⟨mg, mo, none⟩) l.length h2) ∧ (W'.cell? ⟨mg, mo + j * 5, none⟩ = some (.int .i64 xk) ∧ W'.cell? ⟨mg, mo + j * 5 + 1, none⟩ = some (.int .i64 xn) ∧ W'.cell? ⟨mg, mo + j * 5 + 2, none⟩ = some (.string xs) ∧ W'.cell? ⟨mg, mo + j * 5 + 3, none⟩ = some (.slice F1 xi.length f1) ∧ W'.cell? ⟨mg, mo + j * 5 + 4, none⟩ = some (.slice F2 xl.length f2)))
          refine late_take (i := 0) (v := ?_) rfl (by kernel_rfl) (fun _ _ _ h => h) ⟨by kernel_rfl, ?_⟩ hS ?_
          rotate_left
          · (intro w hSw; (try dsimp only at hSw); go_simp; first | done | with_reducible rfl)
          try simp only [Act.put, List.getElem_toArray, List.getElem_cons_zero, List.getElem_cons_succ, List.setIfInBounds_toArray, List.set_cons_zero, List.set_cons_succ]
          refine late_take (i := 1) (v := ?_) rfl (by kernel_rfl) (fun _ _ _ h => h) ⟨by kernel_rfl, ?_⟩ hS ?_
          rotate_left
          · (intro w hSw; (try dsimp only at hSw); go_simp; first | done | with_reducible rfl)
          try simp only [Act.put, List.getElem_toArray, List.getElem_cons_zero, List.getElem_cons_succ, List.setIfInBounds_toArray, List.set_cons_zero, List.set_cons_succ]
          refine late_take (i := 2) (v := ?_) rfl (by kernel_rfl) (fun _ _ _ h => h) ⟨by kernel_rfl, ?_⟩ hS ?_
          rotate_left
          · (intro w hSw; (try dsimp only at hSw); go_simp; first | done | with_reducible rfl)
          try simp only [Act.put, List.getElem_toArray, List.getElem_cons_zero, List.getElem_cons_succ, List.setIfInBounds_toArray, List.set_cons_zero, List.set_cons_succ]
          refine late_take (i := 3) (v := ?_) rfl (by kernel_rfl) (fun _ _ _ h => h) ⟨by kernel_rfl, ?_⟩ hS ?_
          rotate_left
          · (intro w hSw; (try dsimp only at hSw); go_simp; first | done | with_reducible rfl)
          try simp only [Act.put, List.getElem_toArray, List.getElem_cons_zero, List.getElem_cons_succ, List.setIfInBounds_toArray, List.set_cons_zero, List.set_cons_succ]
          refine late_take (i := 4) (v := ?_) rfl (by kernel_rfl) (fun _ _ _ h => h) ⟨by kernel_rfl, ?_⟩ hS ?_
          rotate_left
          · (intro w hSw; (try dsimp only at hSw); go_simp; first | done | with_reducible rfl)
          try simp only [Act.put, List.getElem_toArray, List.getElem_cons_zero, List.getElem_cons_succ, List.setIfInBounds_toArray, List.set_cons_zero, List.set_cons_succ]
          refine late_take (i := 5) (v := ?_) rfl (by kernel_rfl) (fun _ _ _ h => h) ⟨by kernel_rfl, ?_⟩ hS ?_
          rotate_left
          · (intro w hSw; (try dsimp only at hSw); go_simp; first | done | with_reducible rfl)
          try simp only [Act.put, List.getElem_toArray, List.getElem_cons_zero, List.getElem_cons_succ, List.setIfInBounds_toArray, List.set_cons_zero, List.set_cons_succ]
          refine late_take (i := 6) (v := ?_) rfl (by kernel_rfl) (fun _ _ _ h => h) ⟨by kernel_rfl, ?_⟩ hS ?_
          rotate_left
          · (intro w hSw; (try dsimp only at hSw); go_simp; first | done | with_reducible rfl)
          try simp only [Act.put, List.getElem_toArray, List.getElem_cons_zero, List.getElem_cons_succ, List.setIfInBounds_toArray, List.set_cons_zero, List.set_cons_succ]
          refine late_take (i := 7) (v := ?_) rfl (by kernel_rfl) (fun _ _ _ h => h) ⟨by kernel_rfl, ?_⟩ hS ?_
          rotate_left
          · (intro w hSw; (try dsimp only at hSw); go_simp; first | done | with_reducible rfl)
          try simp only [Act.put, List.getElem_toArray, List.getElem_cons_zero, List.getElem_cons_succ, List.setIfInBounds_toArray, List.set_cons_zero, List.set_cons_succ]
          refine late_take (i := 8) (v := ?_) rfl (by kernel_rfl) (fun _ _ _ h => h) ⟨by kernel_rfl, ?_⟩ hS ?_
          rotate_left
          · (intro w hSw; (try dsimp only at hSw); go_simp; first | done | with_reducible rfl)
          try simp only [Act.put, List.getElem_toArray, List.getElem_cons_zero, List.getElem_cons_succ, List.setIfInBounds_toArray, List.set_cons_zero, List.set_cons_succ]
          refine late_take (i := 9) (v := ?_) rfl (by kernel_rfl) (fun _ _ _ h => h) ⟨by kernel_rfl, ?_⟩ hS ?_
          rotate_left
          · (intro w hSw; (try dsimp only at hSw); go_simp; first | done | with_reducible rfl)
          try simp only [Act.put, List.getElem_toArray, List.getElem_cons_zero, List.getElem_cons_succ, List.setIfInBounds_toArray, List.set_cons_zero, List.set_cons_succ]
          refine late_one (i := 10) rfl (by kernel_rfl) (fun K hK => ?_)
          go_simp
          refine (IH.out _ _ (.mk xk xn xs xi xl) _ HDx.out HRx.out HRy.out).mono ?_
          rintro e w3 ⟨rfl, hb3⟩
          refine hK.out _ _ (fun h => absurd h (by decide)) ?_
          clear hK K
          try simp only [Act.put, List.getElem_toArray, List.getElem_cons_zero, List.getElem_cons_succ, List.setIfInBounds_toArray, List.set_cons_zero, List.set_cons_succ]
          refine late_one (i := 11) rfl (by kernel_rfl) (fun K hK => ?_)
          go_simp
          refine hK.out _ _ (fun h => absurd h (by decide)) ?_
          clear hK K
          try simp only [Act.put, List.getElem_toArray, List.getElem_cons_zero, List.getElem_cons_succ, List.setIfInBounds_toArray, List.set_cons_zero, List.set_cons_succ]
          refine late_done (by kernel_rfl) ?_ _
          have hw3 := below_via hw' hb3 hw'.size
          have y1 := z1'.below hb3 z1'.lt
          have y2 := z2'.below hb3 z2'.lt
          clear hS hb3 z1' z2' hw'
          go_wp2_with fail
          go_roundw
          case rel => exact ⟨j + 1, by go_num, by go_light; omega, y1, y2, hw3⟩
          case measure => go_light; simp [intOf]; omega
        · go_wp2_with fail
          go_ret
          exact ⟨rfl, hb⟩
theorem same_anyR (S S' : Nat → Prop) : ∀ (d : Nat), SameAtR S S' d
  | 0 => fun _ _ v _ hd _ _ => by
    obtain ⟨kind, n, s, ids, l⟩ := v
    rw [depthV] at hd; omega
  | d + 1 => same_succR S S' d (same_anyR S S' d)
end Go.Proofs.YtockolmdffehnaaDoor
