/- The walk of the statement Names. -/
import Derived.Test.YtchmhdhkbojciaaRep
import Derived.Test.YtchmhdhkbojciaaProg
namespace Go.Proofs.Ytchmhdhkbojciaa
open Go.RowKit

set_option maxRecDepth 100000 in
theorem names_any (w : World) : Calls Try.prog 3 #[] w (Ret w (.bool true)) := by
  go_enter Try.func3, Try.ntmps3
  go_wp2
  go_ret
  exact ⟨rfl, Below.refl _ _⟩
end Go.Proofs.Ytchmhdhkbojciaa
