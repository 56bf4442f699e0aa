/- The walks of sameBook, merge.Same, has. -/
import Derived.Test.YtihdnjnhhhafkaaGreatDoorMergeSame
import Derived.Test.YtihdnjnhhhafkaaGreatDoorRefShelf
set_option linter.all false
set_option maxRecDepth 100000
set_option maxHeartbeats 8000000
namespace Go.Proofs.YtihdnjnhhhafkaaGreatDoor
open Go.RowKit
theorem compare_self : ∀ (l : List UInt8), Lib.compareBytes l l = 0
 | [] => by simp [Lib.compareBytes]
 | a :: l => by
  unfold Lib.compareBytes
  have h : ¬ a < a := UInt8.lt_irrefl a
  rw [if_neg h, if_neg h]
  exact compare_self l
theorem sameC_any (S S' : Nat → Prop) (cs cs' : List Value) (t : TypeD) (w : World) (ht : RType S w cs t) (ht' : RType S' w cs' t) : Calls Tryz.prog 23 #[.agg cs.toArray, .agg cs'.toArray] w (Ret w (.bool true)) := by
 obtain ⟨P2, p2, P3, p3, P4, p4, rfl, hF, hG, hI⟩ := ht.parts
 obtain ⟨Q2, q2, Q3, q3, Q4, q4, rfl, hF', hG', hI'⟩ := ht'.parts
 have HF := Lib.hid hF
 have HF' := Lib.hid hF'
 have HG := Lib.hid hG
 have HG' := Lib.hid hG'
 have HI := Lib.hid hI
 have HI' := Lib.hid hI'
 obtain ⟨z1, z2, hb⟩ := boxes2 w [.string t.name, .bool t.enum, .slice P2 t.fields.length p2, .slice P3 t.gone.length p3, .slice P4 t.items.length p4] [.string t.name, .bool t.enum, .slice Q2 t.fields.length q2, .slice Q3 t.gone.length q3, .slice Q4 t.items.length q4] 38 38
 clear ht ht' hF hF' hG hG' hI hI'
 go_enter Tryz.func23, Tryz.ntmps23
 go_wp2_with fail
 refine (Tryz.strings_Compare _ _ _).mono ?_
 rintro e w1 ⟨rfl, rfl⟩
 rw [compare_self]
 have m3 := z1.cell 2
 have n3 := z2.cell 2
 have l1 := z1.lt
 have l2 := z2.lt
 simp only [List.getElem?_cons_zero, List.getElem?_cons_succ] at m3 n3
 have HF2 := Lib.hid (eqlF_any S S' _ _ _ _ ((RSl.fair RField.fair).below HF.out hb) ((RSl.fair RField.fair).below HF'.out hb))
 have hbx : (t.enum == t.enum) = true := by simp
 go_wp2_with fail
 refine HF2.out.mono ?_
 rintro e w2 ⟨rfl, hb2⟩
 have hw2 := below_via hb hb2 hb.size
 have y1 := z1.below hb2 z1.lt
 have y2 := z2.below hb2 z2.lt
 have HG2 := Lib.hid (eqlG_any S S' _ _ _ _ ((RSl.fair RInt.fair).below HG.out hw2) ((RSl.fair RInt.fair).below HG'.out hw2))
 clear m3 n3 l1 l2 z1 z2 hb hb2 HF HF' HF2
 have m3 := y1.cell 3
 have n3 := y2.cell 3
 have l1 := y1.lt
 have l2 := y2.lt
 simp only [List.getElem?_cons_zero, List.getElem?_cons_succ] at m3 n3
 go_wp2_with fail
 refine HG2.out.mono ?_
 rintro e w3 ⟨rfl, hb3⟩
 have hw3 := below_via hw2 hb3 hw2.size
 have x1 := y1.below hb3 y1.lt
 have x2 := y2.below hb3 y2.lt
 have HI2 := Lib.hid (eqlI_any S S' _ _ _ _ ((RSl.fair RItem.fair).below HI.out hw3) ((RSl.fair RItem.fair).below HI'.out hw3))
 clear m3 n3 l1 l2 y1 y2 hw2 hb3 HG HG' HG2
 have m3 := x1.cell 4
 have n3 := x2.cell 4
 have l1 := x1.lt
 have l2 := x2.lt
 simp only [List.getElem?_cons_zero, List.getElem?_cons_succ] at m3 n3
 go_wp2_with fail
 refine HI2.out.mono ?_
 rintro e w4 ⟨rfl, hb4⟩
 have hw4 := below_via hw3 hb4 hw3.size
 clear m3 n3 l1 l2 x1 x2 hb4 HI HI' HI2
 go_wp2_with fail
 go_ret
 exact ⟨rfl, hw4⟩
end Go.Proofs.YtihdnjnhhhafkaaGreatDoor
