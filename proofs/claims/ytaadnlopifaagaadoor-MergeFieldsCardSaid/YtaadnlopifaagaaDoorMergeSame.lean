/- Lists, types and books held against the same: slices.Equal, sameType, sameBook. (Printed by mksame.py.) -/
import Derived.Test.YtaadnlopifaagaaDoorMergeItem
import Derived.Test.YtaadnlopifaagaaDoorLate
import Derived.Test.YtaadnlopifaagaaDoorValueRep
namespace Go.Proofs.YtaadnlopifaagaaDoor
open Go.RowKit

theorem item_guard : Tryd.prog.eqGuardType Tryd.prog.depth 68 = false := by kernel_rfl
theorem item_fields : Tryd.prog.underlying 68 = some (.struct (Tryd.prog.fieldsOf 68)) := by kernel_rfl
theorem item_held : Tryd.prog.stoodInHeld 68 = false := by kernel_rfl
theorem run_eql_field (p q : FieldD) (W : World) : (binOp .eql 36 (.agg (fieldCells p).toArray) (.agg (fieldCells q).toArray)).run Tryd.prog W = .ok (.bool (decide (p = q))) W := by
  obtain ⟨c, d, e, f, g⟩ := p
  obtain ⟨c', d', e', f', g'⟩ := q
  have h := run_equalIn_agg (P := Tryd.prog) W 9999 36 #[.int .i64 c, .string d, .string e, .int .i64 f, .int .i64 g] #[.int .i64 c', .string d', .string e', .int .i64 f', .int .i64 g'] field_fields field_held
  unfold fieldCells
  rw [run_eql_struct, h]
  simp [go_sem, toList_inj]
  by_cases h3 : c = c' <;> by_cases h4 : d = d' <;> by_cases h5 : e = e' <;> by_cases h6 : f = f' <;> by_cases h7 : g = g' <;> simp [h3, h4, h5, h6, h7]
theorem run_neq_field (p : FieldD) (W : World) : (binOp .neq 36 (.agg #[.int .i64 p.id, .string p.name, .string p.type, .int .i64 p.kind, .int .i64 p.rule]) (.agg #[.int .i64 p.id, .string p.name, .string p.type, .int .i64 p.kind, .int .i64 p.rule])).run Tryd.prog W = .ok (.bool false) W := by
  have h := run_equalIn_agg (P := Tryd.prog) W 9999 36 #[.int .i64 p.id, .string p.name, .string p.type, .int .i64 p.kind, .int .i64 p.rule] #[.int .i64 p.id, .string p.name, .string p.type, .int .i64 p.kind, .int .i64 p.rule] field_fields field_held
  rw [run_neq_struct, h]
  simp [go_sem]
theorem run_neq_item (p : ItemD) (W : World) : (binOp .neq 68 (.agg #[.string p.name, .int .i64 p.n]) (.agg #[.string p.name, .int .i64 p.n])).run Tryd.prog W = .ok (.bool false) W := by
  have h := run_equalIn_agg (P := Tryd.prog) W 9999 68 #[.string p.name, .int .i64 p.n] #[.string p.name, .int .i64 p.n] item_fields item_held
  rw [run_neq_struct, h]
  simp [go_sem]

set_option maxRecDepth 100000 in
set_option maxHeartbeats 1000000 in
theorem eqlF_any (S S' : Nat → Prop) (v v' : Value) (l : List FieldD) (w : World) (hl : RSl 5 56 RField S w [v] l) (hl' : RSl 5 56 RField S' w [v'] l) : Calls Tryd.prog 32 #[v, v'] w (Ret w (.bool true)) := by
  obtain ⟨A, cap, rfl, hlc, hlb⟩ := hl.form
  obtain ⟨A', cap', rfl, hlc', hlb'⟩ := hl'.form
  have HL := Lib.hid hl
  have HL' := Lib.hid hl'
  clear hl hl'
  go_enter Tryd.func32, Tryd.ntmps32
  go_wp2_with fail
  go_loopw [13] (fun i wr => ∃ k : Nat, i = .int .i64 k ∧ k ≤ l.length ∧ Below w.heap.size w wr) (fun i _ => l.length - (intOf i).toNat)
  case atStart => exact ⟨0, rfl, by omega, Below.refl _ _⟩
  case round =>
    obtain ⟨k, rfl, hk, hb⟩ := hrel
    by_cases hlt : k < l.length
    · obtain ⟨g, o, es, rfl, hS, hg, hes, hr, hc⟩ := ((RSl.fair RField.fair).below HL.out hb).at_ hlt
      obtain ⟨g', o', es', rfl, hS', hg', hes', hr', hc'⟩ := ((RSl.fair RField.fair).below HL'.out hb).at_ hlt
      obtain ⟨p, hpe⟩ : ∃ p, p = l[k] := ⟨_, rfl⟩
      rw [← hpe] at hr hr'
      clear hpe
      have e1 : es = fieldCells p := hr
      have e2 : es' = fieldCells p := hr'
      subst e1 e2
      have c0 : wr.cell? ⟨g, o + k * 5, none⟩ = some (.int .i64 p.id) := hc.at_ 0 rfl
      have d0 : wr.cell? ⟨g', o' + k * 5, none⟩ = some (.int .i64 p.id) := hc'.at_ 0 rfl
      have c1 : wr.cell? ⟨g, o + k * 5 + 1, none⟩ = some (.string p.name) := hc.at_ 1 rfl
      have d1 : wr.cell? ⟨g', o' + k * 5 + 1, none⟩ = some (.string p.name) := hc'.at_ 1 rfl
      have c2 : wr.cell? ⟨g, o + k * 5 + 2, none⟩ = some (.string p.type) := hc.at_ 2 rfl
      have d2 : wr.cell? ⟨g', o' + k * 5 + 2, none⟩ = some (.string p.type) := hc'.at_ 2 rfl
      have c3 : wr.cell? ⟨g, o + k * 5 + 3, none⟩ = some (.int .i64 p.kind) := hc.at_ 3 rfl
      have d3 : wr.cell? ⟨g', o' + k * 5 + 3, none⟩ = some (.int .i64 p.kind) := hc'.at_ 3 rfl
      have c4 : wr.cell? ⟨g, o + k * 5 + 4, none⟩ = some (.int .i64 p.rule) := hc.at_ 4 rfl
      have d4 : wr.cell? ⟨g', o' + k * 5 + 4, none⟩ = some (.int .i64 p.rule) := hc'.at_ 4 rfl
      have hgd := field_guard
      have hneq := fun W => run_neq_field p W
      clear hr hr' hc hc' hes hes' hg hg' hS hS'
      go_wp2_with fail
      go_quiet (fail)
      go_wp2_with fail
      go_roundw
      case rel => exact ⟨k + 1, by go_num, by omega, below_drewN hb _⟩
      case measure => simp [intOf]; omega
    · go_wp2_with fail
      go_ret
      exact ⟨rfl, hb⟩


set_option maxRecDepth 100000 in
set_option maxHeartbeats 1000000 in
theorem eqlG_any (S S' : Nat → Prop) (v v' : Value) (l : List Int) (w : World) (hl : RSl 1 8 RInt S w [v] l) (hl' : RSl 1 8 RInt S' w [v'] l) : Calls Tryd.prog 33 #[v, v'] w (Ret w (.bool true)) := by
  obtain ⟨A, cap, rfl, hlc, hlb⟩ := hl.form
  obtain ⟨A', cap', rfl, hlc', hlb'⟩ := hl'.form
  have HL := Lib.hid hl
  have HL' := Lib.hid hl'
  clear hl hl'
  go_enter Tryd.func33, Tryd.ntmps33
  go_wp2_with fail
  go_loopw [13] (fun i wr => ∃ k : Nat, i = .int .i64 k ∧ k ≤ l.length ∧ Below w.heap.size w wr) (fun i _ => l.length - (intOf i).toNat)
  case atStart => exact ⟨0, rfl, by omega, Below.refl _ _⟩
  case round =>
    obtain ⟨k, rfl, hk, hb⟩ := hrel
    by_cases hlt : k < l.length
    · obtain ⟨g, o, es, rfl, hS, hg, hes, hr, hc⟩ := ((RSl.fair RInt.fair).below HL.out hb).at_ hlt
      obtain ⟨g', o', es', rfl, hS', hg', hes', hr', hc'⟩ := ((RSl.fair RInt.fair).below HL'.out hb).at_ hlt
      obtain ⟨p, hpe⟩ : ∃ p, p = l[k] := ⟨_, rfl⟩
      rw [← hpe] at hr hr'
      clear hpe
      have e1 : es = [.int .i64 p] := hr
      have e2 : es' = [.int .i64 p] := hr'
      subst e1 e2
      have c0 : wr.cell? ⟨g, o + k, none⟩ = some (.int .i64 p) := by have := hc.at_ 0 rfl; simpa using this
      have d0 : wr.cell? ⟨g', o' + k, none⟩ = some (.int .i64 p) := by have := hc'.at_ 0 rfl; simpa using this
      clear hr hr' hc hc' hes hes' hg hg' hS hS'
      go_wp2_with fail
      go_quiet (fail)
      go_wp2_with fail
      go_roundw
      case rel => exact ⟨k + 1, by go_num, by omega, below_drewN hb _⟩
      case measure => simp [intOf]; omega
    · go_wp2_with fail
      go_ret
      exact ⟨rfl, hb⟩


set_option maxRecDepth 100000 in
set_option maxHeartbeats 1000000 in
theorem eqlI_any (S S' : Nat → Prop) (v v' : Value) (l : List ItemD) (w : World) (hl : RSl 2 24 RItem S w [v] l) (hl' : RSl 2 24 RItem S' w [v'] l) : Calls Tryd.prog 34 #[v, v'] w (Ret w (.bool true)) := by
  obtain ⟨A, cap, rfl, hlc, hlb⟩ := hl.form
  obtain ⟨A', cap', rfl, hlc', hlb'⟩ := hl'.form
  have HL := Lib.hid hl
  have HL' := Lib.hid hl'
  clear hl hl'
  go_enter Tryd.func34, Tryd.ntmps34
  go_wp2_with fail
  go_loopw [13] (fun i wr => ∃ k : Nat, i = .int .i64 k ∧ k ≤ l.length ∧ Below w.heap.size w wr) (fun i _ => l.length - (intOf i).toNat)
  case atStart => exact ⟨0, rfl, by omega, Below.refl _ _⟩
  case round =>
    obtain ⟨k, rfl, hk, hb⟩ := hrel
    by_cases hlt : k < l.length
    · obtain ⟨g, o, es, rfl, hS, hg, hes, hr, hc⟩ := ((RSl.fair RItem.fair).below HL.out hb).at_ hlt
      obtain ⟨g', o', es', rfl, hS', hg', hes', hr', hc'⟩ := ((RSl.fair RItem.fair).below HL'.out hb).at_ hlt
      obtain ⟨p, hpe⟩ : ∃ p, p = l[k] := ⟨_, rfl⟩
      rw [← hpe] at hr hr'
      clear hpe
      have e1 : es = itemCells p := hr
      have e2 : es' = itemCells p := hr'
      subst e1 e2
      have c0 : wr.cell? ⟨g, o + k * 2, none⟩ = some (.string p.name) := hc.at_ 0 rfl
      have d0 : wr.cell? ⟨g', o' + k * 2, none⟩ = some (.string p.name) := hc'.at_ 0 rfl
      have c1 : wr.cell? ⟨g, o + k * 2 + 1, none⟩ = some (.int .i64 p.n) := hc.at_ 1 rfl
      have d1 : wr.cell? ⟨g', o' + k * 2 + 1, none⟩ = some (.int .i64 p.n) := hc'.at_ 1 rfl
      have hgd := item_guard
      have hneq := fun W => run_neq_item p W
      clear hr hr' hc hc' hes hes' hg hg' hS hS'
      go_wp2_with fail
      go_quiet (fail)
      go_wp2_with fail
      go_roundw
      case rel => exact ⟨k + 1, by go_num, by omega, below_drewN hb _⟩
      case measure => simp [intOf]; omega
    · go_wp2_with fail
      go_ret
      exact ⟨rfl, hb⟩


set_option maxRecDepth 100000 in
set_option maxHeartbeats 4000000 in
theorem sameType_any (S S' : Nat → Prop) (cs cs' : List Value) (t : TypeD) (w : World) (ht : RType S w cs t) (ht' : RType S' w cs' t) : Calls Tryd.prog 15 #[.agg cs.toArray, .agg cs'.toArray] w (Ret w (.bool true)) := by
  obtain ⟨P2, p2, P3, p3, P4, p4, rfl, hF, hG, hI⟩ := ht.parts
  obtain ⟨Q2, q2, Q3, q3, Q4, q4, rfl, hF', hG', hI'⟩ := ht'.parts
  obtain ⟨_, _, hff, hfc, hfb⟩ := hF.form
  obtain ⟨_, _, hgg, hgc, hgb⟩ := hG.form
  obtain ⟨_, _, hii, hic, hib⟩ := hI.form
  have HF := Lib.hid hF
  have HF' := Lib.hid hF'
  have HG := Lib.hid hG
  have HG' := Lib.hid hG'
  have HI := Lib.hid hI
  have HI' := Lib.hid hI'
  obtain ⟨z1, z2, hb⟩ := boxes2 w [.string t.name, .bool t.enum, .slice P2 t.fields.length p2, .slice P3 t.gone.length p3, .slice P4 t.items.length p4] [.string t.name, .bool t.enum, .slice Q2 t.fields.length q2, .slice Q3 t.gone.length q3, .slice Q4 t.items.length q4] 51 51
  clear ht ht' hF hF' hG hG' hI hI' hff hgg hii hfc hgc hic
  go_enter Tryd.func15, Tryd.ntmps15
  go_wp2_with fail
  go_loopw [50] (fun i wr => ∃ k : Nat, i = .int .i64 k ∧ k ≤ t.fields.length ∧ Box wr w.heap.size 51 [.string t.name, .bool t.enum, .slice P2 t.fields.length p2, .slice P3 t.gone.length p3, .slice P4 t.items.length p4] ∧ Box wr (w.heap.size + 1) 51 [.string t.name, .bool t.enum, .slice Q2 t.fields.length q2, .slice Q3 t.gone.length q3, .slice Q4 t.items.length q4] ∧ Below w.heap.size w wr) (fun i _ => t.fields.length - (intOf i).toNat)
  case atStart => exact ⟨0, rfl, by omega, z1, z2, hb⟩
  case round =>
    clear z1 z2 hb
    obtain ⟨k, rfl, hk, z1, z2, hb⟩ := hrel
    have m1 : wr.cell? ⟨w.heap.size, 2, none⟩ = some (.slice P2 t.fields.length p2) := z1.cell 2
    have m2 : wr.cell? ⟨w.heap.size + 1, 2, none⟩ = some (.slice Q2 t.fields.length q2) := z2.cell 2
    have l1 := z1.lt
    have l2 := z2.lt
    by_cases hlt : k < t.fields.length
    · obtain ⟨g, o, es, hA, hS, hg, hes, hr, hc⟩ := ((RSl.fair RField.fair).below HF.out hb).at_ hlt
      obtain ⟨g', o', es', hA', hS', hg', hes', hr', hc'⟩ := ((RSl.fair RField.fair).below HF'.out hb).at_ hlt
      rw [hA] at m1
      rw [hA'] at m2
      obtain ⟨p, hpe⟩ : ∃ p, p = t.fields[k] := ⟨_, rfl⟩
      rw [← hpe] at hr hr'
      clear hpe
      have e1 : es = fieldCells p := hr
      have e2 : es' = fieldCells p := hr'
      subst e1 e2
      have c0 : wr.cell? ⟨g, o + k * 5, none⟩ = some (.int .i64 p.id) := hc.at_ 0 rfl
      have d0 : wr.cell? ⟨g', o' + k * 5, none⟩ = some (.int .i64 p.id) := hc'.at_ 0 rfl
      have c1 : wr.cell? ⟨g, o + k * 5 + 1, none⟩ = some (.string p.name) := hc.at_ 1 rfl
      have d1 : wr.cell? ⟨g', o' + k * 5 + 1, none⟩ = some (.string p.name) := hc'.at_ 1 rfl
      have c2 : wr.cell? ⟨g, o + k * 5 + 2, none⟩ = some (.string p.type) := hc.at_ 2 rfl
      have d2 : wr.cell? ⟨g', o' + k * 5 + 2, none⟩ = some (.string p.type) := hc'.at_ 2 rfl
      have c3 : wr.cell? ⟨g, o + k * 5 + 3, none⟩ = some (.int .i64 p.kind) := hc.at_ 3 rfl
      have d3 : wr.cell? ⟨g', o' + k * 5 + 3, none⟩ = some (.int .i64 p.kind) := hc'.at_ 3 rfl
      have c4 : wr.cell? ⟨g, o + k * 5 + 4, none⟩ = some (.int .i64 p.rule) := hc.at_ 4 rfl
      have d4 : wr.cell? ⟨g', o' + k * 5 + 4, none⟩ = some (.int .i64 p.rule) := hc'.at_ 4 rfl
      have hgd := field_guard
      have hneq := fun W => run_neq_field p W
      clear hr hr' hc hc' hes hes' hS hS' hA hA'
      go_wp2_with fail
      go_quiet (fail)
      go_wp2_with fail
      go_roundw
      case rel => exact ⟨k + 1, by go_num, by omega, z1.drewN _, z2.drewN _, below_drewN hb _⟩
      case measure => simp [intOf]; omega
    · have m1 : wr.cell? ⟨w.heap.size, 3, none⟩ = some (.slice P3 t.gone.length p3) := z1.cell 3
      clear m2
      go_wp2_with fail
      go_loopw [68] (fun i wr => ∃ k : Nat, i = .int .i64 k ∧ k ≤ t.gone.length ∧ Box wr w.heap.size 51 [.string t.name, .bool t.enum, .slice P2 t.fields.length p2, .slice P3 t.gone.length p3, .slice P4 t.items.length p4] ∧ Box wr (w.heap.size + 1) 51 [.string t.name, .bool t.enum, .slice Q2 t.fields.length q2, .slice Q3 t.gone.length q3, .slice Q4 t.items.length q4] ∧ Below w.heap.size w wr) (fun i _ => t.gone.length - (intOf i).toNat)
      case atStart => exact ⟨0, rfl, by omega, z1, z2, hb⟩
      case round =>
        clear z1 z2 hb
        obtain ⟨k, rfl, hk, z1, z2, hb⟩ := hrel
        have m1 : wr.cell? ⟨w.heap.size, 3, none⟩ = some (.slice P3 t.gone.length p3) := z1.cell 3
        have m2 : wr.cell? ⟨w.heap.size + 1, 3, none⟩ = some (.slice Q3 t.gone.length q3) := z2.cell 3
        have l1 := z1.lt
        have l2 := z2.lt
        by_cases hlt : k < t.gone.length
        · obtain ⟨g, o, es, hA, hS, hg, hes, hr, hc⟩ := ((RSl.fair RInt.fair).below HG.out hb).at_ hlt
          obtain ⟨g', o', es', hA', hS', hg', hes', hr', hc'⟩ := ((RSl.fair RInt.fair).below HG'.out hb).at_ hlt
          rw [hA] at m1
          rw [hA'] at m2
          obtain ⟨p, hpe⟩ : ∃ p, p = t.gone[k] := ⟨_, rfl⟩
          rw [← hpe] at hr hr'
          clear hpe
          have e1 : es = [.int .i64 p] := hr
          have e2 : es' = [.int .i64 p] := hr'
          subst e1 e2
          have c0 : wr.cell? ⟨g, o + k, none⟩ = some (.int .i64 p) := by have := hc.at_ 0 rfl; simpa using this
          have d0 : wr.cell? ⟨g', o' + k, none⟩ = some (.int .i64 p) := by have := hc'.at_ 0 rfl; simpa using this
          clear hr hr' hc hc' hes hes' hS hS' hA hA'
          go_wp2_with fail
          go_quiet (fail)
          go_wp2_with fail
          go_roundw
          case rel => exact ⟨k + 1, by go_num, by omega, z1.drewN _, z2.drewN _, below_drewN hb _⟩
          case measure => simp [intOf]; omega
        · have m1 : wr.cell? ⟨w.heap.size, 4, none⟩ = some (.slice P4 t.items.length p4) := z1.cell 4
          clear m2
          go_wp2_with fail
          go_loopw [86] (fun i wr => ∃ k : Nat, i = .int .i64 k ∧ k ≤ t.items.length ∧ Box wr w.heap.size 51 [.string t.name, .bool t.enum, .slice P2 t.fields.length p2, .slice P3 t.gone.length p3, .slice P4 t.items.length p4] ∧ Box wr (w.heap.size + 1) 51 [.string t.name, .bool t.enum, .slice Q2 t.fields.length q2, .slice Q3 t.gone.length q3, .slice Q4 t.items.length q4] ∧ Below w.heap.size w wr) (fun i _ => t.items.length - (intOf i).toNat)
          case atStart => exact ⟨0, rfl, by omega, z1, z2, hb⟩
          case round =>
            clear z1 z2 hb
            obtain ⟨k, rfl, hk, z1, z2, hb⟩ := hrel
            have m1 : wr.cell? ⟨w.heap.size, 4, none⟩ = some (.slice P4 t.items.length p4) := z1.cell 4
            have m2 : wr.cell? ⟨w.heap.size + 1, 4, none⟩ = some (.slice Q4 t.items.length q4) := z2.cell 4
            have l1 := z1.lt
            have l2 := z2.lt
            by_cases hlt : k < t.items.length
            · obtain ⟨g, o, es, hA, hS, hg, hes, hr, hc⟩ := ((RSl.fair RItem.fair).below HI.out hb).at_ hlt
              obtain ⟨g', o', es', hA', hS', hg', hes', hr', hc'⟩ := ((RSl.fair RItem.fair).below HI'.out hb).at_ hlt
              rw [hA] at m1
              rw [hA'] at m2
              obtain ⟨p, hpe⟩ : ∃ p, p = t.items[k] := ⟨_, rfl⟩
              rw [← hpe] at hr hr'
              clear hpe
              have e1 : es = itemCells p := hr
              have e2 : es' = itemCells p := hr'
              subst e1 e2
              have c0 : wr.cell? ⟨g, o + k * 2, none⟩ = some (.string p.name) := hc.at_ 0 rfl
              have d0 : wr.cell? ⟨g', o' + k * 2, none⟩ = some (.string p.name) := hc'.at_ 0 rfl
              have c1 : wr.cell? ⟨g, o + k * 2 + 1, none⟩ = some (.int .i64 p.n) := hc.at_ 1 rfl
              have d1 : wr.cell? ⟨g', o' + k * 2 + 1, none⟩ = some (.int .i64 p.n) := hc'.at_ 1 rfl
              have hgd := item_guard
              have hneq := fun W => run_neq_item p W
              clear hr hr' hc hc' hes hes' hS hS' hA hA'
              go_wp2_with fail
              go_quiet (fail)
              go_wp2_with fail
              go_roundw
              case rel => exact ⟨k + 1, by go_num, by omega, z1.drewN _, z2.drewN _, below_drewN hb _⟩
              case measure => simp [intOf]; omega
            · go_wp2_with fail
              go_ret
              exact ⟨rfl, hb⟩
end Go.Proofs.YtaadnlopifaagaaDoor
