/- The walk of book.Least (for seats without book.Means). -/
import Derived.Test.YtaadnlopifaagaaDoorBookLeast
namespace Go.Proofs.YtaadnlopifaagaaDoor
open Go.RowKit

set_option maxRecDepth 100000 in
theorem leastOf4_any (S : Nat → Prop) (vb : Value) (b : BookD) (name : ByteArray) (w : World) (hb : RSl 5 96 RType S w [vb] b) :
    Calls Tryd.prog 20 #[.agg #[vb], .string name] w (Ret w (.int .i64 (leastF b 4 name))) := by
  obtain ⟨A, cap, rfl, _, _⟩ := hb.form
  have hbk := (RSl.fair RType.fair).below hb ((Below.refl w.heap.size w).alloc (Nat.le_refl _) (.cells #[.slice A b.length cap] 24))
  have Hbk := Lib.hid hbk
  clear hb hbk
  go_enter Tryd.func20, Tryd.ntmps20
  go_wp2_with fail
  refine (least_any S _ b 4 (by omega) name _ Hbk.out).mono ?_
  rintro e w1 ⟨rfl, hb1⟩
  have hbw : Below w.heap.size w w1 := below_via ((Below.refl w.heap.size w).alloc (Nat.le_refl _) _) hb1 (by simp)
  go_wp2_with fail
  go_ret
  exact ⟨rfl, hbw⟩
end Go.Proofs.YtaadnlopifaagaaDoor
