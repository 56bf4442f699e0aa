/- The small example of wire, walked. -/
import Derived.Test.YtfichobelmabeaaWireEq
namespace Go.Proofs.Ytfichobelmabeaa
open Go.RowKit

set_option maxRecDepth 100000 in
set_option maxHeartbeats 400000 in
theorem wires_any (w : World) : Calls Try.prog 11 #[] w (Ret w (.bool true)) := by
  go_enter Try.func11, Try.ntmps11
  go_wp2_with fail
  have hr : RSl 4 40 RPart (fun _ => True) (w.alloc (.cells ([P1, P2].map partCells).flatten.toArray 27)) [.slice (some ⟨w.heap.size, 0, none⟩) 2 2] [P1, P2] :=
    RSl.of_box_flat (xs := [P1, P2]) (Box.new w 27 _) trivial (by decide) (by decide) (fun x _ => rfl)
  have he := encode_any _ _ _ _ hr (by intro p hp; simp at hp; rcases hp with rfl | rfl <;> decide)
  rw [encL_two] at he
  refine he.mono ?_
  rintro e w1 ⟨rfl, hb1⟩
  clear he hr
  go_wp2_with fail
  go_ret
  exact ⟨rfl, below_via ((Below.refl _ _).alloc (Nat.le_refl _) _) hb1 (by simp)⟩
end Go.Proofs.Ytfichobelmabeaa
