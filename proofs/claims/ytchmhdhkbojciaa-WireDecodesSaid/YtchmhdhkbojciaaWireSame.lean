/- Two lists of parts held against each other. -/
import Derived.Test.YtchmhdhkbojciaaWireEnc
namespace Go.Proofs.Ytchmhdhkbojciaa
open Go.RowKit

theorem part_guard : Try.prog.eqGuardType Try.prog.depth 28 = false := by kernel_rfl
theorem part_fields : Try.prog.underlying 28 = some (.struct (Try.prog.fieldsOf 28)) := by kernel_rfl
theorem part_held : Try.prog.stoodInHeld 28 = false := by kernel_rfl
theorem run_neq_part (p q : Part) (W : World) : (binOp .neq 28 (partV p) (partV q)).run Try.prog W = .ok (.bool (!decide (p = q))) W := by
  obtain ⟨a, b, c, d⟩ := p
  obtain ⟨a', b', c', d'⟩ := q
  have h := run_equalIn_agg (P := Try.prog) W 9999 28 #[.int .i64 a, .int .i64 b, .int .i64 c, .string d] #[.int .i64 a', .int .i64 b', .int .i64 c', .string d'] part_fields part_held
  rw [run_neq_struct, h]
  have hs : (d.toList = d'.toList) ↔ d = d' := by
    rw [ByteArray.toList_eq, ByteArray.toList_eq]
    obtain ⟨⟨l⟩⟩ := d
    obtain ⟨⟨l'⟩⟩ := d'
    simp
  simp [go_sem, hs]
  by_cases h1 : a = a' <;> by_cases h2 : b = b' <;> by_cases h3 : c = c' <;> by_cases h4 : d = d' <;> simp [h1, h2, h3, h4]

theorem sl_parts : SlInfo Try.prog 23 28 4 40 := .mk (z := .agg #[.int .i64 0, .int .i64 0, .int .i64 0, .string .empty]) Try.underlying23 (by decide) (by decide) (by kernel_rfl) rfl
theorem RPart.ones : OneCells RPart := by
  intro S w cs x h
  have h' : cs = partCells x := h
  subst h'
  exact Ones.of_all rfl

def P1 : Part := ⟨1, 0, -1, ⟨#[]⟩⟩
def P2 : Part := ⟨2, 1, 0, ⟨#[97]⟩⟩
theorem encP_one : encP P1 = [4, 1] := by
  show sev 4 ++ sev 1 = _
  rw [sev_lt (by decide), sev_lt (by decide)]; rfl
theorem encP_two : encP P2 = [9, 1, 97] := by
  show sev 9 ++ (sev 1 ++ [97]) = _
  rw [sev_lt (by decide), sev_lt (by decide)]; rfl
theorem encL_two : encL [P1, P2] [] = ([4, 1, 9, 1, 97], 0) := by
  rw [encL, if_pos (by decide), encP_one, if_neg (by decide), encL, if_pos (by decide), encP_two, if_neg (by decide), encL]; rfl

set_option maxRecDepth 100000 in
set_option maxHeartbeats 400000 in
theorem wires_any (w : World) : Calls Try.prog 12 #[] w (Ret w (.bool true)) := by
  go_enter Try.func12, Try.ntmps12
  go_wp2_with fail
  have hr : RSl 4 40 RPart (fun _ => True) (w.alloc (.cells ([P1, P2].map partCells).flatten.toArray 28)) [.slice (some ⟨w.heap.size, 0, none⟩) 2 2] [P1, P2] :=
    RSl.of_box_flat (xs := [P1, P2]) (Box.new w 28 _) trivial (by decide) (by decide) (fun x _ => rfl)
  have he := encode_any _ _ _ _ hr (by intro p hp; simp at hp; rcases hp with rfl | rfl <;> decide)
  rw [encL_two] at he
  refine he.mono ?_
  rintro e w1 ⟨rfl, hb1⟩
  clear he hr
  go_wp2_with fail
  go_ret
  exact ⟨rfl, below_via ((Below.refl _ _).alloc (Nat.le_refl _) _) hb1 (by simp)⟩
end Go.Proofs.Ytchmhdhkbojciaa
