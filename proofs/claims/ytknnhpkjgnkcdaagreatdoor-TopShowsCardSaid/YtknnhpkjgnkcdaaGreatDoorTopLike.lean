/- The walks of the statements' own comparisons at what is alike: sameNumbers, sameReply. -/
import Derived.Test.YtknnhpkjgnkcdaaGreatDoorTops
set_option linter.all false
namespace Go.Proofs.YtknnhpkjgnkcdaaGreatDoor
open Go.RowKit
theorem RSl.front {α:Type}{sz by_ n c:Nat}{R:Rel α}{S:Nat→Prop}{w:World}{A:Option Addr}{xs ys:List α}(h:RSl sz by_ R S w [.slice A n c] (xs++ys)):RSl sz by_ R S w [.slice A xs.length c] xs:=by
 obtain⟨A',cap,h1,h2,h3,h4⟩:=h;simp only[List.cons.injEq,Value.slice.injEq,and_true] at h1;obtain⟨rfl,-,rfl⟩:=h1;rw[List.length_append] at h2 h3;refine⟨A,c,rfl,by omega,Nat.le_trans (Nat.mul_le_mul_right _ (Nat.le_add_right _ _)) h3,fun k x hx=>h4 k x ?_⟩;rw[List.getElem?_append_left (List.getElem?_eq_some_iff.1 hx).1];exact hx
end Go.Proofs.YtknnhpkjgnkcdaaGreatDoor
