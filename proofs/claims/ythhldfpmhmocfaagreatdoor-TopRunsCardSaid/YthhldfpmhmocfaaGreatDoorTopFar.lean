/- A eZ beside another, to which something is done. -/
import Derived.Test.YthhldfpmhmocfaaGreatDoorTops
set_option linter.all false
namespace Go.Proofs.YthhldfpmhmocfaaGreatDoor
open Go.RowKit
def Far (row:Option Nat)(g:Nat)(row2:Option Nat)(g2:Nat)(S2:Nat→Prop):Prop:=g2≠g∧row≠some g2∧row2≠some g∧(∀ k,row2=some k→row≠some k)∧¬ S2 g∧∀ k,row=some k→¬ S2 k
section
variable {S S2 S':Nat→Prop}{row row2 row':Option Nat}{b1 b2 g g2:Nat}{w w':World}{s1 s2:cK}
theorem bS.touch (h:bS S2 row2 b2 w g2 s2)(ht:Touch row g w w')(hf:Far row g row2 g2 S2):bS S2 row2 b2 w' g2 s2:=by
 obtain⟨h1,h2,h3,h4,h5,h6⟩:=hf;obtain⟨vc,vr,a1,a2,a3,a4,a5,a6,a7,a8⟩:=h;refine⟨vc,vr,a1,a2.touch ht h1 h2,(RSl.fair dw.fair).keep a3 (ht.keep h5 h6),a4.air iG.fair (S:=fun y=>y≠g∧row≠some y) ⟨ht.size,fun y hy hl=>ht.block y hl hy.1 hy.2⟩ (fun k e=>⟨?_,h4 k (a1 ▸ e)⟩),a5,a6,fun y hy=>Nat.lt_of_lt_of_le (a7 y hy) ht.size,a8⟩;rintro rfl;exact h3 (a1 ▸ e)
end
end Go.Proofs.YthhldfpmhmocfaaGreatDoor
