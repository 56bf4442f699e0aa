/- The walks of the statements' own comparisons, at what is alike: sameNumbers, sameBook, sameCommits, sameRefs, same, sameReply; and of quiet. -/
import Derived.Test.YtknnhpkjgnkcdaaGreatDoorMsame
import Derived.Test.YtknnhpkjgnkcdaaGreatDoorTopLike
set_option linter.all false
set_option maxRecDepth 100000
set_option maxHeartbeats 8000000
namespace Go.Proofs.YtknnhpkjgnkcdaaGreatDoor
open Go.Proofs.Tryz
open Go.RowKit
theorem afE (S S':Nat→Prop)(v v':Value)(b:av)(w:World)(h1:RSl 5 96 ah S w [v] b)(h2:RSl 5 96 ah S' w [v'] b):Calls prog 11 #[.agg #[v],.agg #[v']] w (Ret w (.bool true)):=by
 obtain⟨A,d1,rfl,hlc,hlb⟩:=h1.form;obtain⟨A',d2,rfl,hlc',hlb'⟩:=h2.form;obtain⟨x1,x2,x3⟩:=bY w [.slice A b.length d1] [.slice A' b.length d2] 38 38;have HC:=hidL (Hu S S' _ _ b _ ((RSl.fair ah.fair).below h1 x3) ((RSl.fair ah.fair).below h2 x3));clear h1 h2;go_enter func11,ntmps11;go_wp2_with fail;refine HC.out.mono ?_;rintro e w1 ⟨rfl,hb⟩;have hb1:=aa x3 hb x3.size;clear HC x1 x2 x3 hb;go_wp2;go_ret;exact⟨rfl,hb1⟩
end Go.Proofs.YtknnhpkjgnkcdaaGreatDoor
