/- Lists, types and books held against the same: slices.Equal, sameType, sameBook. (Printed by mksame.py.) -/
import Derived.Test.YtihdnjnhhhafkaaGreatDoorMwalks
import Derived.Test.YtihdnjnhhhafkaaGreatDoorLates
import Derived.Test.YtihdnjnhhhafkaaGreatDoorBase
set_option linter.all false
set_option maxRecDepth 100000
set_option maxHeartbeats 8000000
namespace Go.Proofs.YtihdnjnhhhafkaaGreatDoor
open Go.RowKit
theorem item_guard : Tryz.prog.eqGuardType Tryz.prog.depth 62 = false := by kernel_rfl
theorem item_fields : Tryz.prog.underlying 62 = some (.struct (Tryz.prog.fieldsOf 62)) := by kernel_rfl
theorem item_held : Tryz.prog.stoodInHeld 62 = false := by kernel_rfl
theorem run_eql_field (p q : FieldD) (W : World) : (binOp .eql 43 (.agg (fieldCells p).toArray) (.agg (fieldCells q).toArray)).run Tryz.prog W = .ok (.bool (decide (p = q))) W := by
 obtain ⟨c, d, e, f, g⟩ := p
 obtain ⟨c', d', e', f', g'⟩ := q
 have h := run_equalIn_agg (P := Tryz.prog) W 9999 43 #[.int .i64 c, .string d, .string e, .int .i64 f, .int .i64 g] #[.int .i64 c', .string d', .string e', .int .i64 f', .int .i64 g'] field_fields field_held
 unfold fieldCells
 rw [run_eql_struct, h]
 simp [go_sem, toList_inj]
 by_cases h3 : c = c' <;> by_cases h4 : d = d' <;> by_cases h5 : e = e' <;> by_cases h6 : f = f' <;> by_cases h7 : g = g' <;> simp [h3, h4, h5, h6, h7]
theorem run_neq_field (p : FieldD) (W : World) : (binOp .neq 43 (.agg #[.int .i64 p.id, .string p.name, .string p.type, .int .i64 p.kind, .int .i64 p.rule]) (.agg #[.int .i64 p.id, .string p.name, .string p.type, .int .i64 p.kind, .int .i64 p.rule])).run Tryz.prog W = .ok (.bool false) W := by
 have h := run_equalIn_agg (P := Tryz.prog) W 9999 43 #[.int .i64 p.id, .string p.name, .string p.type, .int .i64 p.kind, .int .i64 p.rule] #[.int .i64 p.id, .string p.name, .string p.type, .int .i64 p.kind, .int .i64 p.rule] field_fields field_held
 rw [run_neq_struct, h]
 simp [go_sem]
theorem run_neq_item (p : ItemD) (W : World) : (binOp .neq 62 (.agg #[.string p.name, .int .i64 p.n]) (.agg #[.string p.name, .int .i64 p.n])).run Tryz.prog W = .ok (.bool false) W := by
 have h := run_equalIn_agg (P := Tryz.prog) W 9999 62 #[.string p.name, .int .i64 p.n] #[.string p.name, .int .i64 p.n] item_fields item_held
 rw [run_neq_struct, h]
 simp [go_sem]
theorem eqlF_any (S S' : Nat → Prop) (v v' : Value) (l : List FieldD) (w : World) (hl : RSl 5 56 RField S w [v] l) (hl' : RSl 5 56 RField S' w [v'] l) : Calls Tryz.prog 25 #[v, v'] w (Ret w (.bool true)) := by
 obtain ⟨A, cap, rfl, hlc, hlb⟩ := hl.form
 obtain ⟨A', cap', rfl, hlc', hlb'⟩ := hl'.form
 have HL := Lib.hid hl
 have HL' := Lib.hid hl'
 clear hl hl'
 go_enter Tryz.func25, Tryz.ntmps25
 go_wp2_with fail
 go_loopw [13] (fun i wr => ∃ k : Nat, i = .int .i64 k ∧ k ≤ l.length ∧ Below w.heap.size w wr) (fun i _ => l.length - (intOf i).toNat)
 case atStart => exact ⟨0, rfl, by omega, Below.refl _ _⟩
 case round =>
  obtain ⟨k, rfl, hk, hb⟩ := hrel
  by_cases hlt : k < l.length
  ·obtain ⟨g, o, es, rfl, hS, hg, hes, hr, hc⟩ := ((RSl.fair RField.fair).below HL.out hb).at_ hlt
   obtain ⟨g', o', es', rfl, hS', hg', hes', hr', hc'⟩ := ((RSl.fair RField.fair).below HL'.out hb).at_ hlt
   obtain ⟨p, hpe⟩ : ∃ p, p = l[k] := ⟨_, rfl⟩
   rw [← hpe] at hr hr'
   clear hpe
   have e1 : es = fieldCells p := hr
   have e2 : es' = fieldCells p := hr'
   subst e1 e2
   have c0 : wr.cell? ⟨g, o + k * 5, none⟩ = some (.int .i64 p.id) := hc.at_ 0 rfl
   have d0 : wr.cell? ⟨g', o' + k * 5, none⟩ = some (.int .i64 p.id) := hc'.at_ 0 rfl
   have c1 : wr.cell? ⟨g, o + k * 5 + 1, none⟩ = some (.string p.name) := hc.at_ 1 rfl
   have d1 : wr.cell? ⟨g', o' + k * 5 + 1, none⟩ = some (.string p.name) := hc'.at_ 1 rfl
   have c2 : wr.cell? ⟨g, o + k * 5 + 2, none⟩ = some (.string p.type) := hc.at_ 2 rfl
   have d2 : wr.cell? ⟨g', o' + k * 5 + 2, none⟩ = some (.string p.type) := hc'.at_ 2 rfl
   have c3 : wr.cell? ⟨g, o + k * 5 + 3, none⟩ = some (.int .i64 p.kind) := hc.at_ 3 rfl
   have d3 : wr.cell? ⟨g', o' + k * 5 + 3, none⟩ = some (.int .i64 p.kind) := hc'.at_ 3 rfl
   have c4 : wr.cell? ⟨g, o + k * 5 + 4, none⟩ = some (.int .i64 p.rule) := hc.at_ 4 rfl
   have d4 : wr.cell? ⟨g', o' + k * 5 + 4, none⟩ = some (.int .i64 p.rule) := hc'.at_ 4 rfl
   have hgd := field_guard
   have hneq := fun W => run_neq_field p W
   clear hr hr' hc hc' hes hes' hg hg' hS hS'
   go_wp2_with fail
   go_quiet (fail)
   go_wp2_with fail
   go_roundw
   case rel => exact ⟨k + 1, by go_num, by omega, below_drewN hb _⟩
   case measure => simp [intOf]; omega
  ·go_wp2_with fail
   go_ret
   exact ⟨rfl, hb⟩
theorem eqlG_any (S S' : Nat → Prop) (v v' : Value) (l : List Int) (w : World) (hl : RSl 1 8 RInt S w [v] l) (hl' : RSl 1 8 RInt S' w [v'] l) : Calls Tryz.prog 26 #[v, v'] w (Ret w (.bool true)) := by
 obtain ⟨A, cap, rfl, hlc, hlb⟩ := hl.form
 obtain ⟨A', cap', rfl, hlc', hlb'⟩ := hl'.form
 have HL := Lib.hid hl
 have HL' := Lib.hid hl'
 clear hl hl'
 go_enter Tryz.func26, Tryz.ntmps26
 go_wp2_with fail
 go_loopw [13] (fun i wr => ∃ k : Nat, i = .int .i64 k ∧ k ≤ l.length ∧ Below w.heap.size w wr) (fun i _ => l.length - (intOf i).toNat)
 case atStart => exact ⟨0, rfl, by omega, Below.refl _ _⟩
 case round =>
  obtain ⟨k, rfl, hk, hb⟩ := hrel
  by_cases hlt : k < l.length
  ·obtain ⟨g, o, es, rfl, hS, hg, hes, hr, hc⟩ := ((RSl.fair RInt.fair).below HL.out hb).at_ hlt
   obtain ⟨g', o', es', rfl, hS', hg', hes', hr', hc'⟩ := ((RSl.fair RInt.fair).below HL'.out hb).at_ hlt
   obtain ⟨p, hpe⟩ : ∃ p, p = l[k] := ⟨_, rfl⟩
   rw [← hpe] at hr hr'
   clear hpe
   have e1 : es = [.int .i64 p] := hr
   have e2 : es' = [.int .i64 p] := hr'
   subst e1 e2
   have c0 : wr.cell? ⟨g, o + k, none⟩ = some (.int .i64 p) := by have := hc.at_ 0 rfl; simpa using this
   have d0 : wr.cell? ⟨g', o' + k, none⟩ = some (.int .i64 p) := by have := hc'.at_ 0 rfl; simpa using this
   clear hr hr' hc hc' hes hes' hg hg' hS hS'
   go_wp2_with fail
   go_quiet (fail)
   go_wp2_with fail
   go_roundw
   case rel => exact ⟨k + 1, by go_num, by omega, below_drewN hb _⟩
   case measure => simp [intOf]; omega
  ·go_wp2_with fail
   go_ret
   exact ⟨rfl, hb⟩
theorem eqlI_any (S S' : Nat → Prop) (v v' : Value) (l : List ItemD) (w : World) (hl : RSl 2 24 RItem S w [v] l) (hl' : RSl 2 24 RItem S' w [v'] l) : Calls Tryz.prog 27 #[v, v'] w (Ret w (.bool true)) := by
 obtain ⟨A, cap, rfl, hlc, hlb⟩ := hl.form
 obtain ⟨A', cap', rfl, hlc', hlb'⟩ := hl'.form
 have HL := Lib.hid hl
 have HL' := Lib.hid hl'
 clear hl hl'
 go_enter Tryz.func27, Tryz.ntmps27
 go_wp2_with fail
 go_loopw [13] (fun i wr => ∃ k : Nat, i = .int .i64 k ∧ k ≤ l.length ∧ Below w.heap.size w wr) (fun i _ => l.length - (intOf i).toNat)
 case atStart => exact ⟨0, rfl, by omega, Below.refl _ _⟩
 case round =>
  obtain ⟨k, rfl, hk, hb⟩ := hrel
  by_cases hlt : k < l.length
  ·obtain ⟨g, o, es, rfl, hS, hg, hes, hr, hc⟩ := ((RSl.fair RItem.fair).below HL.out hb).at_ hlt
   obtain ⟨g', o', es', rfl, hS', hg', hes', hr', hc'⟩ := ((RSl.fair RItem.fair).below HL'.out hb).at_ hlt
   obtain ⟨p, hpe⟩ : ∃ p, p = l[k] := ⟨_, rfl⟩
   rw [← hpe] at hr hr'
   clear hpe
   have e1 : es = itemCells p := hr
   have e2 : es' = itemCells p := hr'
   subst e1 e2
   have c0 : wr.cell? ⟨g, o + k * 2, none⟩ = some (.string p.name) := hc.at_ 0 rfl
   have d0 : wr.cell? ⟨g', o' + k * 2, none⟩ = some (.string p.name) := hc'.at_ 0 rfl
   have c1 : wr.cell? ⟨g, o + k * 2 + 1, none⟩ = some (.int .i64 p.n) := hc.at_ 1 rfl
   have d1 : wr.cell? ⟨g', o' + k * 2 + 1, none⟩ = some (.int .i64 p.n) := hc'.at_ 1 rfl
   have hgd := item_guard
   have hneq := fun W => run_neq_item p W
   clear hr hr' hc hc' hes hes' hg hg' hS hS'
   go_wp2_with fail
   go_quiet (fail)
   go_wp2_with fail
   go_roundw
   case rel => exact ⟨k + 1, by go_num, by omega, below_drewN hb _⟩
   case measure => simp [intOf]; omega
  ·go_wp2_with fail
   go_ret
   exact ⟨rfl, hb⟩
end Go.Proofs.YtihdnjnhhhafkaaGreatDoor
