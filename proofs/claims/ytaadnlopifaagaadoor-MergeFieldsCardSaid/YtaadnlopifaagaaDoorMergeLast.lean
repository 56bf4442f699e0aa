/- The walks of sameBook, merge.Same, has. -/
import Derived.Test.YtaadnlopifaagaaDoorMergeSame
import Derived.Test.YtaadnlopifaagaaDoorMergeShelf
namespace Go.Proofs.YtaadnlopifaagaaDoor
open Go.RowKit

set_option maxRecDepth 100000 in
set_option maxHeartbeats 4000000 in
theorem sameBook_any (S S' : Nat → Prop) (v v' : Value) (b : BookD) (w : World) (h1 : RSl 5 96 RType S w [v] b) (h2 : RSl 5 96 RType S' w [v'] b) : Calls Tryd.prog 7 #[.agg #[v], .agg #[v']] w (Ret w (.bool true)) := by
  obtain ⟨A, d1, rfl, hlc, hlb⟩ := h1.form
  obtain ⟨A', d2, rfl, hlc', hlb'⟩ := h2.form
  have HL := Lib.hid h1
  have HL' := Lib.hid h2
  obtain ⟨z1, z2, hb⟩ := boxes2 w [.slice A b.length d1] [.slice A' b.length d2] 24 24
  clear h1 h2
  go_enter Tryd.func7, Tryd.ntmps7
  go_wp2_with fail
  go_loopw [16] (fun i wr => ∃ k : Nat, i = .int .i64 k ∧ k ≤ b.length ∧ Box wr w.heap.size 24 [.slice A b.length d1] ∧ Box wr (w.heap.size + 1) 24 [.slice A' b.length d2] ∧ Below w.heap.size w wr) (fun i _ => b.length - (intOf i).toNat)
  case atStart => exact ⟨0, rfl, by omega, z1, z2, hb⟩
  case round =>
    clear z1 z2 hb
    obtain ⟨k, rfl, hk, z1, z2, hb⟩ := hrel
    by_cases hlt : k < b.length
    · obtain ⟨lg, lo, rfl, hSl, hgl⟩ := HL.out.base (by omega)
      obtain ⟨mg, mo, rfl, hSm, hgm⟩ := HL'.out.base (by omega)
      obtain ⟨es, _, hrx, hlx⟩ := HL.out.lies hlt
      obtain ⟨fs, _, hry, hly⟩ := HL'.out.lies hlt
      obtain ⟨t, ht⟩ : ∃ t, t = b[k] := ⟨_, rfl⟩
      rw [← ht] at hrx hry
      obtain ⟨P2, p2, P3, p3, P4, p4, rfl, -, -, -⟩ := hrx.parts
      obtain ⟨Q2, q2, Q3, q3, Q4, q4, rfl, -, -, -⟩ := hry.parts
      have hc := hlx.keep (Keep.of_below (below_drew hb)) hSl
      have hd := hly.keep (Keep.of_below (below_drew hb)) hSm
      have hw' := below_drew hb
      have z1' := z1.drew
      have z2' := z2.drew
      have HRx := Lib.hid (RType.fair.below hrx hw')
      have HRy := Lib.hid (RType.fair.below hry hw')
      have hS : (fun W' : World => W'.cell? ⟨w.heap.size, 0, none⟩ = some (.slice (some ⟨lg, lo, none⟩) b.length d1) ∧ (W'.cell? ⟨lg, lo + k * 5, none⟩ = some (.string t.name) ∧ W'.cell? ⟨lg, lo + k * 5 + 1, none⟩ = some (.bool t.enum) ∧ W'.cell? ⟨lg, lo + k * 5 + 2, none⟩ = some (.slice P2 t.fields.length p2) ∧ W'.cell? ⟨lg, lo + k * 5 + 3, none⟩ = some (.slice P3 t.gone.length p3) ∧ W'.cell? ⟨lg, lo + k * 5 + 4, none⟩ = some (.slice P4 t.items.length p4)) ∧ W'.cell? ⟨w.heap.size + 1, 0, none⟩ = some (.slice (some ⟨mg, mo, none⟩) b.length d2) ∧ (W'.cell? ⟨mg, mo + k * 5, none⟩ = some (.string t.name) ∧ W'.cell? ⟨mg, mo + k * 5 + 1, none⟩ = some (.bool t.enum) ∧ W'.cell? ⟨mg, mo + k * 5 + 2, none⟩ = some (.slice Q2 t.fields.length q2) ∧ W'.cell? ⟨mg, mo + k * 5 + 3, none⟩ = some (.slice Q3 t.gone.length q3) ∧ W'.cell? ⟨mg, mo + k * 5 + 4, none⟩ = some (.slice Q4 t.items.length q4))) wr.drew :=
        ⟨z1.cell 0, ⟨hc.at_ 0 rfl, hc.at_ 1 rfl, hc.at_ 2 rfl, hc.at_ 3 rfl, hc.at_ 4 rfl⟩, z2.cell 0, ⟨hd.at_ 0 rfl, hd.at_ 1 rfl, hd.at_ 2 rfl, hd.at_ 3 rfl, hd.at_ 4 rfl⟩⟩
      clear hrx hry hlx hly ht hc hd z1 z2 hb
      go_wp2_with fail
      refine late_start (lt := 10) (hm := by kernel_rfl) (h := ?_) (S := fun W' : World => W'.cell? ⟨w.heap.size, 0, none⟩ = some (.slice (some ⟨lg, lo, none⟩) b.length d1) ∧ (W'.cell? ⟨lg, lo + k * 5, none⟩ = some (.string t.name) ∧ W'.cell? ⟨lg, lo + k * 5 + 1, none⟩ = some (.bool t.enum) ∧ W'.cell? ⟨lg, lo + k * 5 + 2, none⟩ = some (.slice P2 t.fields.length p2) ∧ W'.cell? ⟨lg, lo + k * 5 + 3, none⟩ = some (.slice P3 t.gone.length p3) ∧ W'.cell? ⟨lg, lo + k * 5 + 4, none⟩ = some (.slice P4 t.items.length p4)) ∧ W'.cell? ⟨w.heap.size + 1, 0, none⟩ = some (.slice (some ⟨mg, mo, none⟩) b.length d2) ∧ (W'.cell? ⟨mg, mo + k * 5, none⟩ = some (.string t.name) ∧ W'.cell? ⟨mg, mo + k * 5 + 1, none⟩ = some (.bool t.enum) ∧ W'.cell? ⟨mg, mo + k * 5 + 2, none⟩ = some (.slice Q2 t.fields.length q2) ∧ W'.cell? ⟨mg, mo + k * 5 + 3, none⟩ = some (.slice Q3 t.gone.length q3) ∧ W'.cell? ⟨mg, mo + k * 5 + 4, none⟩ = some (.slice Q4 t.items.length q4)))
      refine late_take (i := 0) (v := ?_) rfl (by kernel_rfl) (fun _ _ _ h => h) ⟨by kernel_rfl, ?_⟩ hS ?_
      rotate_left
      · (intro w hSw; (try dsimp only at hSw); go_simp; first | done | with_reducible rfl)
      try simp only [Act.put, List.getElem_toArray, List.getElem_cons_zero, List.getElem_cons_succ, List.setIfInBounds_toArray, List.set_cons_zero, List.set_cons_succ]
      refine late_take (i := 1) (v := ?_) rfl (by kernel_rfl) (fun _ _ _ h => h) ⟨by kernel_rfl, ?_⟩ hS ?_
      rotate_left
      · (intro w hSw; (try dsimp only at hSw); go_simp; first | done | with_reducible rfl)
      try simp only [Act.put, List.getElem_toArray, List.getElem_cons_zero, List.getElem_cons_succ, List.setIfInBounds_toArray, List.set_cons_zero, List.set_cons_succ]
      refine late_take (i := 2) (v := ?_) rfl (by kernel_rfl) (fun _ _ _ h => h) ⟨by kernel_rfl, ?_⟩ hS ?_
      rotate_left
      · (intro w hSw; (try dsimp only at hSw); go_simp; first | done | with_reducible rfl)
      try simp only [Act.put, List.getElem_toArray, List.getElem_cons_zero, List.getElem_cons_succ, List.setIfInBounds_toArray, List.set_cons_zero, List.set_cons_succ]
      refine late_take (i := 3) (v := ?_) rfl (by kernel_rfl) (fun _ _ _ h => h) ⟨by kernel_rfl, ?_⟩ hS ?_
      rotate_left
      · (intro w hSw; (try dsimp only at hSw); go_simp; first | done | with_reducible rfl)
      try simp only [Act.put, List.getElem_toArray, List.getElem_cons_zero, List.getElem_cons_succ, List.setIfInBounds_toArray, List.set_cons_zero, List.set_cons_succ]
      refine late_take (i := 4) (v := ?_) rfl (by kernel_rfl) (fun _ _ _ h => h) ⟨by kernel_rfl, ?_⟩ hS ?_
      rotate_left
      · (intro w hSw; (try dsimp only at hSw); go_simp; first | done | with_reducible rfl)
      try simp only [Act.put, List.getElem_toArray, List.getElem_cons_zero, List.getElem_cons_succ, List.setIfInBounds_toArray, List.set_cons_zero, List.set_cons_succ]
      refine late_take (i := 5) (v := ?_) rfl (by kernel_rfl) (fun _ _ _ h => h) ⟨by kernel_rfl, ?_⟩ hS ?_
      rotate_left
      · (intro w hSw; (try dsimp only at hSw); go_simp; first | done | with_reducible rfl)
      try simp only [Act.put, List.getElem_toArray, List.getElem_cons_zero, List.getElem_cons_succ, List.setIfInBounds_toArray, List.set_cons_zero, List.set_cons_succ]
      refine late_take (i := 6) (v := ?_) rfl (by kernel_rfl) (fun _ _ _ h => h) ⟨by kernel_rfl, ?_⟩ hS ?_
      rotate_left
      · (intro w hSw; (try dsimp only at hSw); go_simp; first | done | with_reducible rfl)
      try simp only [Act.put, List.getElem_toArray, List.getElem_cons_zero, List.getElem_cons_succ, List.setIfInBounds_toArray, List.set_cons_zero, List.set_cons_succ]
      refine late_take (i := 7) (v := ?_) rfl (by kernel_rfl) (fun _ _ _ h => h) ⟨by kernel_rfl, ?_⟩ hS ?_
      rotate_left
      · (intro w hSw; (try dsimp only at hSw); go_simp; first | done | with_reducible rfl)
      try simp only [Act.put, List.getElem_toArray, List.getElem_cons_zero, List.getElem_cons_succ, List.setIfInBounds_toArray, List.set_cons_zero, List.set_cons_succ]
      refine late_take (i := 8) (v := ?_) rfl (by kernel_rfl) (fun _ _ _ h => h) ⟨by kernel_rfl, ?_⟩ hS ?_
      rotate_left
      · (intro w hSw; (try dsimp only at hSw); go_simp; first | done | with_reducible rfl)
      try simp only [Act.put, List.getElem_toArray, List.getElem_cons_zero, List.getElem_cons_succ, List.setIfInBounds_toArray, List.set_cons_zero, List.set_cons_succ]
      refine late_take (i := 9) (v := ?_) rfl (by kernel_rfl) (fun _ _ _ h => h) ⟨by kernel_rfl, ?_⟩ hS ?_
      rotate_left
      · (intro w hSw; (try dsimp only at hSw); go_simp; first | done | with_reducible rfl)
      try simp only [Act.put, List.getElem_toArray, List.getElem_cons_zero, List.getElem_cons_succ, List.setIfInBounds_toArray, List.set_cons_zero, List.set_cons_succ]
      refine late_one (i := 10) rfl (by kernel_rfl) (fun K hK => ?_)
      go_simp
      refine (sameType_any _ _ _ _ t _ HRx.out HRy.out).mono ?_
      rintro e w3 ⟨rfl, hb3⟩
      refine hK.out _ _ (fun h => absurd h (by decide)) ?_
      clear hK K
      try simp only [Act.put, List.getElem_toArray, List.getElem_cons_zero, List.getElem_cons_succ, List.setIfInBounds_toArray, List.set_cons_zero, List.set_cons_succ]
      refine late_one (i := 11) rfl (by kernel_rfl) (fun K hK => ?_)
      go_simp
      refine hK.out _ _ (fun h => absurd h (by decide)) ?_
      clear hK K
      try simp only [Act.put, List.getElem_toArray, List.getElem_cons_zero, List.getElem_cons_succ, List.setIfInBounds_toArray, List.set_cons_zero, List.set_cons_succ]
      refine late_done (by kernel_rfl) ?_ _
      have hw3 := below_via hw' hb3 hw'.size
      have y1 := z1'.below hb3 z1'.lt
      have y2 := z2'.below hb3 z2'.lt
      clear hS hb3 z1' z2' hw'
      go_wp2_with fail
      go_roundw
      case rel => exact ⟨k + 1, by go_num, by go_light; omega, y1, y2, hw3⟩
      case measure => go_light; simp [intOf]; omega
    · go_wp2_with fail
      go_ret
      exact ⟨rfl, hb⟩

theorem compare_self : ∀ (l : List UInt8), Lib.compareBytes l l = 0
  | [] => by simp [Lib.compareBytes]
  | a :: l => by
    unfold Lib.compareBytes
    have h : ¬ a < a := UInt8.lt_irrefl a
    rw [if_neg h, if_neg h]
    exact compare_self l
set_option maxRecDepth 100000 in
set_option maxHeartbeats 4000000 in
theorem sameC_any (S S' : Nat → Prop) (cs cs' : List Value) (t : TypeD) (w : World) (ht : RType S w cs t) (ht' : RType S' w cs' t) : Calls Tryd.prog 30 #[.agg cs.toArray, .agg cs'.toArray] w (Ret w (.bool true)) := by
  obtain ⟨P2, p2, P3, p3, P4, p4, rfl, hF, hG, hI⟩ := ht.parts
  obtain ⟨Q2, q2, Q3, q3, Q4, q4, rfl, hF', hG', hI'⟩ := ht'.parts
  have HF := Lib.hid hF
  have HF' := Lib.hid hF'
  have HG := Lib.hid hG
  have HG' := Lib.hid hG'
  have HI := Lib.hid hI
  have HI' := Lib.hid hI'
  obtain ⟨z1, z2, hb⟩ := boxes2 w [.string t.name, .bool t.enum, .slice P2 t.fields.length p2, .slice P3 t.gone.length p3, .slice P4 t.items.length p4] [.string t.name, .bool t.enum, .slice Q2 t.fields.length q2, .slice Q3 t.gone.length q3, .slice Q4 t.items.length q4] 51 51
  clear ht ht' hF hF' hG hG' hI hI'
  go_enter Tryd.func30, Tryd.ntmps30
  go_wp2_with fail
  refine (Tryd.strings_Compare _ _ _).mono ?_
  rintro e w1 ⟨rfl, rfl⟩
  rw [compare_self]
  have m3 := z1.cell 2
  have n3 := z2.cell 2
  have l1 := z1.lt
  have l2 := z2.lt
  simp only [List.getElem?_cons_zero, List.getElem?_cons_succ] at m3 n3
  have HF2 := Lib.hid (eqlF_any S S' _ _ _ _ ((RSl.fair RField.fair).below HF.out hb) ((RSl.fair RField.fair).below HF'.out hb))
  have hbx : (t.enum == t.enum) = true := by simp
  go_wp2_with fail
  refine HF2.out.mono ?_
  rintro e w2 ⟨rfl, hb2⟩
  have hw2 := below_via hb hb2 hb.size
  have y1 := z1.below hb2 z1.lt
  have y2 := z2.below hb2 z2.lt
  have HG2 := Lib.hid (eqlG_any S S' _ _ _ _ ((RSl.fair RInt.fair).below HG.out hw2) ((RSl.fair RInt.fair).below HG'.out hw2))
  clear m3 n3 l1 l2 z1 z2 hb hb2 HF HF' HF2
  have m3 := y1.cell 3
  have n3 := y2.cell 3
  have l1 := y1.lt
  have l2 := y2.lt
  simp only [List.getElem?_cons_zero, List.getElem?_cons_succ] at m3 n3
  go_wp2_with fail
  refine HG2.out.mono ?_
  rintro e w3 ⟨rfl, hb3⟩
  have hw3 := below_via hw2 hb3 hw2.size
  have x1 := y1.below hb3 y1.lt
  have x2 := y2.below hb3 y2.lt
  have HI2 := Lib.hid (eqlI_any S S' _ _ _ _ ((RSl.fair RItem.fair).below HI.out hw3) ((RSl.fair RItem.fair).below HI'.out hw3))
  clear m3 n3 l1 l2 y1 y2 hw2 hb3 HG HG' HG2
  have m3 := x1.cell 4
  have n3 := x2.cell 4
  have l1 := x1.lt
  have l2 := x2.lt
  simp only [List.getElem?_cons_zero, List.getElem?_cons_succ] at m3 n3
  go_wp2_with fail
  refine HI2.out.mono ?_
  rintro e w4 ⟨rfl, hb4⟩
  have hw4 := below_via hw3 hb4 hw3.size
  clear m3 n3 l1 l2 x1 x2 hb4 HI HI' HI2
  go_wp2_with fail
  go_ret
  exact ⟨rfl, hw4⟩
end Go.Proofs.YtaadnlopifaagaaDoor
