/- Two lists of parts held against each other. -/
import Derived.Test.YtfichobelmabeaaWireEnc
namespace Go.Proofs.Ytfichobelmabeaa
open Go.RowKit

theorem part_guard : Try.prog.eqGuardType Try.prog.depth 27 = false := by kernel_rfl
theorem part_fields : Try.prog.underlying 27 = some (.struct (Try.prog.fieldsOf 27)) := by kernel_rfl
theorem part_held : Try.prog.stoodInHeld 27 = false := by kernel_rfl
theorem run_neq_part (p q : Part) (W : World) : (binOp .neq 27 (partV p) (partV q)).run Try.prog W = .ok (.bool (!decide (p = q))) W := by
  obtain ⟨a, b, c, d⟩ := p
  obtain ⟨a', b', c', d'⟩ := q
  have h := run_equalIn_agg (P := Try.prog) W 9999 27 #[.int .i64 a, .int .i64 b, .int .i64 c, .string d] #[.int .i64 a', .int .i64 b', .int .i64 c', .string d'] part_fields part_held
  rw [run_neq_struct, h]
  have hs : (d.toList = d'.toList) ↔ d = d' := by
    rw [ByteArray.toList_eq, ByteArray.toList_eq]
    obtain ⟨⟨l⟩⟩ := d
    obtain ⟨⟨l'⟩⟩ := d'
    simp
  simp [go_sem, hs]
  by_cases h1 : a = a' <;> by_cases h2 : b = b' <;> by_cases h3 : c = c' <;> by_cases h4 : d = d' <;> simp [h1, h2, h3, h4]

theorem sl_parts : SlInfo Try.prog 22 27 4 40 := .mk (z := .agg #[.int .i64 0, .int .i64 0, .int .i64 0, .string .empty]) Try.underlying22 (by decide) (by decide) (by kernel_rfl) rfl
theorem RPart.ones : OneCells RPart := by
  intro S w cs x h
  have h' : cs = partCells x := h
  subst h'
  exact Ones.of_all rfl

def P1 : Part := ⟨1, 0, -1, ⟨#[]⟩⟩
def P2 : Part := ⟨2, 1, 0, ⟨#[97]⟩⟩
theorem encP_one : encP P1 = [4, 1] := by
  show sev 4 ++ sev 1 = _
  rw [sev_lt (by decide), sev_lt (by decide)]; rfl
theorem encP_two : encP P2 = [9, 1, 97] := by
  show sev 9 ++ (sev 1 ++ [97]) = _
  rw [sev_lt (by decide), sev_lt (by decide)]; rfl
theorem encL_two : encL [P1, P2] [] = ([4, 1, 9, 1, 97], 0) := by
  rw [encL, if_pos (by decide), encP_one, if_neg (by decide), encL, if_pos (by decide), encP_two, if_neg (by decide), encL]; rfl
end Go.Proofs.Ytfichobelmabeaa
