/- States and fields held against each other. -/
import Derived.Test.YtaadnlopifaagaaDoorBookGood
import Derived.Test.YtaadnlopifaagaaDoorMergePlain
namespace Go.Proofs.YtaadnlopifaagaaDoor
open Go.RowKit

def stCells (s : StateD) : List Value := [.bool s.there, .bool s.enum, .int .i64 s.field.id, .string s.field.name, .string s.field.type, .int .i64 s.field.kind, .int .i64 s.field.rule, .string s.item]
theorem state_guard : Tryd.prog.eqGuardType Tryd.prog.depth 43 = false := by kernel_rfl
theorem state_fields : Tryd.prog.underlying 43 = some (.struct (Tryd.prog.fieldsOf 43)) := by kernel_rfl
theorem state_held : Tryd.prog.stoodInHeld 43 = false := by kernel_rfl
theorem field_guard : Tryd.prog.eqGuardType Tryd.prog.depth 36 = false := by kernel_rfl
theorem field_fields : Tryd.prog.underlying 36 = some (.struct (Tryd.prog.fieldsOf 36)) := by kernel_rfl
theorem field_held : Tryd.prog.stoodInHeld 36 = false := by kernel_rfl
theorem toList_inj {a b : ByteArray} : (a.toList = b.toList) ↔ a = b := by
  rw [ByteArray.toList_eq, ByteArray.toList_eq]
  obtain ⟨⟨l⟩⟩ := a
  obtain ⟨⟨l'⟩⟩ := b
  simp
theorem run_eql_state (p q : StateD) (W : World) : (binOp .eql 43 (.agg (stCells p).toArray) (.agg (stCells q).toArray)).run Tryd.prog W = .ok (.bool (decide (p = q))) W := by
  obtain ⟨a, b, ⟨c, d, e, f, g⟩, i⟩ := p
  obtain ⟨a', b', ⟨c', d', e', f', g'⟩, i'⟩ := q
  have h := run_equalIn_agg (P := Tryd.prog) W 9999 43 #[.bool a, .bool b, .int .i64 c, .string d, .string e, .int .i64 f, .int .i64 g, .string i] #[.bool a', .bool b', .int .i64 c', .string d', .string e', .int .i64 f', .int .i64 g', .string i'] state_fields state_held
  have h2 := run_equalIn_agg (P := Tryd.prog) W 9998 36 #[.int .i64 c, .string d, .string e, .int .i64 f, .int .i64 g] #[.int .i64 c', .string d', .string e', .int .i64 f', .int .i64 g'] field_fields field_held
  unfold stCells
  rw [run_eql_struct, h]
  simp [go_sem, h2, toList_inj]
  by_cases h1 : a = a' <;> by_cases h2 : b = b' <;> by_cases h3 : c = c' <;> by_cases h4 : d = d' <;> by_cases h5 : e = e' <;> by_cases h6 : f = f' <;> by_cases h7 : g = g' <;> by_cases h8 : i = i' <;> simp [h1, h2, h3, h4, h5, h6, h7, h8]
end Go.Proofs.YtaadnlopifaagaaDoor
