/- What a call that answers a value and a code has to say. -/
import Derived.Test.YtfidfakcbjoilaaGreatDoorBase
set_option linter.all false
namespace Go.Proofs.YtfidfakcbjoilaaGreatDoor
open Go.RowKit
def ValCode (w : World) (r : ValueD × Int) (e : Ending) (w' : World) : Prop := ∃ cs, e = .returned (.tuple #[.agg cs.toArray, .int .i64 r.2]) ∧ RVal (New w) w' cs r.1 ∧ Below w.heap.size w w'
def ValUn (S : Nat → Prop) (w : World) (v : ValueD) (e : Ending) (w' : World) : Prop := ∃ cs, e = .returned (.agg cs.toArray) ∧ RVal (Un S w) w' cs v ∧ Below w.heap.size w w'
end Go.Proofs.YtfidfakcbjoilaaGreatDoor
