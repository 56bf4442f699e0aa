/- The walk of the statement ValueEncodes. -/
import Derived.Test.YtockolmdffehnaaDoorRefTyped
import Derived.Test.YtockolmdffehnaaDoorRefCopyV
import Derived.Test.YtockolmdffehnaaDoorRefValues
namespace Go.Proofs.YtockolmdffehnaaDoor
open Go.RowKit

set_option maxRecDepth 100000 in
set_option maxHeartbeats 4000000 in
theorem valueEncodes_any (S S' : Nat → Prop) (vb : Value) (b : BookD) (name : ByteArray) (cs : List Value) (v : ValueD) (w : World) (hb0 : RSl 5 96 RType S w [vb] b) (hr0 : RVal S' w cs v) (hW : Words w) (hM : MaxL w) (hB : BookOk b) (hsm : BookSmall b) (hok : okV v) (hd : depthV v ≤ 4611686018427387904) (hc : countV v ≤ 4611686018427387904) :
    Calls Tryd.prog 3 #[.agg #[vb], .string name, .agg cs.toArray] w (Ret w (.bool true)) := by
  obtain ⟨A, cap, rfl, hlc, hlb⟩ := hb0.form
  have hen : ∀ S1 S2 A' c' W cs, RSl 5 96 RType S1 W [.slice A' b.length c'] b → RVal S2 W cs v → Words W → Calls Tryd.prog 6 #[.agg #[.slice A' b.length c'], .string name, .agg cs.toArray] W (EncPost W (EncodeF b name v)) := fun S1 S2 A' c' W cs h0 h1 h2 => vEncode_any S1 S2 _ b name cs v W h0 h1 h2 hB hok hd hc
  have hev : ∀ W cs, RSl 5 96 RType S W [.slice A b.length cap] b → RVal S' W cs v → MaxL W → Calls Tryd.prog 9 #[.agg #[.slice A b.length cap], .string name, .agg cs.toArray] W (EncPost W (EncodeF b name v)) := fun W cs h0 h1 h2 => encodeValue_any S S' _ b name cs v W h0 h1 h2 hB hsm hok hd hc
  have hcv : ∀ W cs, RVal S' W cs v → Calls Tryd.prog 8 #[.agg cs.toArray] W (CopyVPost W v) := fun W cs h => copyValue_any (depthV v) S' cs v W (Nat.le_refl _) h
  obtain ⟨⟨T, C⟩, hT⟩ : ∃ r, r = EncodeF b name v := ⟨_, rfl⟩
  rw [← hT] at hen hev
  clear hok hd hc hT hB hsm
  obtain ⟨vk, vn, vs, vids, vls⟩ := v
  obtain ⟨D1, f1, D2, f2, rfl, -, -⟩ := hr0.parts
  have HB := Lib.hid hb0
  have HR := Lib.hid hr0
  have HW := Lib.hid hW
  have HM := Lib.hid hM
  have HE := Lib.hid hen
  have HV := Lib.hid hev
  have HC := Lib.hid hcv
  obtain ⟨x1, x2, x3⟩ := boxes2 w [.slice A b.length cap] [.int .i64 vk, .int .i64 vn, .string vs, .slice D1 vids.length f1, .slice D2 vls.length f2] 24 28
  clear hb0 hr0 hW hM hen hev hcv
  go_enter Tryd.func3, Tryd.ntmps3
  go_wp2_with fail
  generalize (w.alloc (.cells #[.slice A b.length cap] 24)).alloc (.cells #[.int .i64 vk, .int .i64 vn, .string vs, .slice D1 vids.length f1, .slice D2 vls.length f2] 28) = W0 at *
  have HSK := Lib.hid (fun (W' : World) (h : Box W' w.heap.size 24 [.slice A b.length cap]) (h2 : Box W' (w.heap.size + 1) 28 [.int .i64 vk, .int .i64 vn, .string vs, .slice D1 vids.length f1, .slice D2 vls.length f2]) => (⟨h.cell 0, h2.five⟩ : World.cell? W' ⟨w.heap.size, 0, none⟩ = some (.slice A b.length cap) ∧ (World.cell? W' ⟨w.heap.size + 1, 0, none⟩ = some (.int .i64 vk) ∧ World.cell? W' ⟨w.heap.size + 1, 1, none⟩ = some (.int .i64 vn) ∧ World.cell? W' ⟨w.heap.size + 1, 2, none⟩ = some (.string vs) ∧ World.cell? W' ⟨w.heap.size + 1, 3, none⟩ = some (.slice D1 vids.length f1) ∧ World.cell? W' ⟨w.heap.size + 1, 4, none⟩ = some (.slice D2 vls.length f2))))
  replace x1 := x1.drew
  replace x2 := x2.drew
  replace x3 := below_drew x3
  have hS := HSK.out _ x1 x2
  refine late_start (fun W' => World.cell? W' ⟨w.heap.size, 0, none⟩ = some (.slice A b.length cap) ∧ (World.cell? W' ⟨w.heap.size + 1, 0, none⟩ = some (.int .i64 vk) ∧ World.cell? W' ⟨w.heap.size + 1, 1, none⟩ = some (.int .i64 vn) ∧ World.cell? W' ⟨w.heap.size + 1, 2, none⟩ = some (.string vs) ∧ World.cell? W' ⟨w.heap.size + 1, 3, none⟩ = some (.slice D1 vids.length f1) ∧ World.cell? W' ⟨w.heap.size + 1, 4, none⟩ = some (.slice D2 vls.length f2))) 10 (by kernel_rfl) ?_
  refine late_take (i := 0) (v := ?_) rfl (by kernel_rfl) (fun _ _ _ h => h) ⟨by kernel_rfl, ?_⟩ hS ?_
  rotate_left
  · (intro w hSw; (try dsimp only at hSw); go_simp; first | done | with_reducible rfl)
  try simp only [Act.put, List.getElem_toArray, List.getElem_cons_zero, List.getElem_cons_succ, List.setIfInBounds_toArray, List.set_cons_zero, List.set_cons_succ]
  refine late_take (i := 2) (v := ?_) rfl (by kernel_rfl) (fun _ _ _ h => h) ⟨by kernel_rfl, ?_⟩ hS ?_
  rotate_left
  · (intro w hSw; (try dsimp only at hSw); go_simp; first | done | with_reducible rfl)
  try simp only [Act.put, List.getElem_toArray, List.getElem_cons_zero, List.getElem_cons_succ, List.setIfInBounds_toArray, List.set_cons_zero, List.set_cons_succ]
  refine late_take (i := 3) (v := ?_) rfl (by kernel_rfl) (fun _ _ _ h => h) ⟨by kernel_rfl, ?_⟩ hS ?_
  rotate_left
  · (intro w hSw; (try dsimp only at hSw); go_simp; first | done | with_reducible rfl)
  try simp only [Act.put, List.getElem_toArray, List.getElem_cons_zero, List.getElem_cons_succ, List.setIfInBounds_toArray, List.set_cons_zero, List.set_cons_succ]
  refine late_one (i := 1) rfl (by kernel_rfl) (fun K hK => ?_)
  go_simp
  refine (copyBook_any S _ b _ ((RSl.fair RType.fair).below HB.out x3)).mono ?_
  rintro e w1 ⟨A', c', rfl, hrb, hb1⟩
  replace x1 := x1.below hb1 x1.lt
  replace x2 := x2.below hb1 x2.lt
  replace x3 := below_via x3 hb1 x3.size
  clear hS
  have hS := HSK.out _ x1 x2
  refine hK.out _ _ (fun _ => hS) ?_
  clear hK K
  try simp only [Act.put, List.getElem_toArray, List.getElem_cons_zero, List.getElem_cons_succ, List.setIfInBounds_toArray, List.set_cons_zero, List.set_cons_succ]
  refine late_one (i := 4) rfl (by kernel_rfl) (fun K hK => ?_)
  go_simp
  refine (HC.out _ _ (RVal.fair.below HR.out x3)).mono ?_
  rintro e w2 ⟨cs2, rfl, hrv, hb2⟩
  replace x1 := x1.below hb2 x1.lt
  replace x2 := x2.below hb2 x2.lt
  replace x3 := below_via x3 hb2 x3.size
  clear hS
  have hS := HSK.out _ x1 x2
  obtain ⟨E1, g1, E2, g2, rfl, -, -⟩ := hrv.parts
  replace hrb := (RSl.fair RType.fair).below hrb hb2
  refine hK.out _ _ (fun _ => hS) ?_
  clear hK K
  try simp only [Act.put, List.getElem_toArray, List.getElem_cons_zero, List.getElem_cons_succ, List.setIfInBounds_toArray, List.set_cons_zero, List.set_cons_succ]
  refine late_one (i := 5) rfl (by kernel_rfl) (fun K hK => ?_)
  go_simp
  refine (HE.out _ _ _ _ _ _ hrb hrv (HW.out.below x3)).mono ?_
  rintro e w3 ⟨rfl, hb3⟩
  replace x1 := x1.below hb3 x1.lt
  replace x2 := x2.below hb3 x2.lt
  replace x3 := below_via x3 hb3 x3.size
  clear hS
  have hS := HSK.out _ x1 x2
  refine hK.out _ _ (fun _ => hS) ?_
  clear hK K
  try simp only [Act.put, List.getElem_toArray, List.getElem_cons_zero, List.getElem_cons_succ, List.setIfInBounds_toArray, List.set_cons_zero, List.set_cons_succ]
  refine late_take (i := 6) (v := ?_) rfl (by kernel_rfl) (fun _ _ _ h => h) ⟨by kernel_rfl, ?_⟩ hS ?_
  rotate_left
  · (intro w hSw; (try dsimp only at hSw); go_simp; first | done | with_reducible rfl)
  try simp only [Act.put, List.getElem_toArray, List.getElem_cons_zero, List.getElem_cons_succ, List.setIfInBounds_toArray, List.set_cons_zero, List.set_cons_succ]
  refine late_take (i := 7) (v := ?_) rfl (by kernel_rfl) (fun _ _ _ h => h) ⟨by kernel_rfl, ?_⟩ hS ?_
  rotate_left
  · (intro w hSw; (try dsimp only at hSw); go_simp; first | done | with_reducible rfl)
  try simp only [Act.put, List.getElem_toArray, List.getElem_cons_zero, List.getElem_cons_succ, List.setIfInBounds_toArray, List.set_cons_zero, List.set_cons_succ]
  refine late_take (i := 8) (v := ?_) rfl (by kernel_rfl) (fun _ _ _ h => h) ⟨by kernel_rfl, ?_⟩ hS ?_
  rotate_left
  · (intro w hSw; (try dsimp only at hSw); go_simp; first | done | with_reducible rfl)
  try simp only [Act.put, List.getElem_toArray, List.getElem_cons_zero, List.getElem_cons_succ, List.setIfInBounds_toArray, List.set_cons_zero, List.set_cons_succ]
  refine late_one (i := 9) rfl (by kernel_rfl) (fun K hK => ?_)
  go_simp
  refine hK.out _ _ (fun _ => hS) ?_
  clear hK K
  try simp only [Act.put, List.getElem_toArray, List.getElem_cons_zero, List.getElem_cons_succ, List.setIfInBounds_toArray, List.set_cons_zero, List.set_cons_succ]
  refine late_one (i := 10) rfl (by kernel_rfl) (fun K hK => ?_)
  go_simp
  refine hK.out _ _ (fun h => absurd h (by decide)) ?_
  clear hK K
  try simp only [Act.put, List.getElem_toArray, List.getElem_cons_zero, List.getElem_cons_succ, List.setIfInBounds_toArray, List.set_cons_zero, List.set_cons_succ]
  refine late_done (by kernel_rfl) ?_ _
  have b0 := x1.cell 0
  have l0 := x1.lt
  simp only [List.getElem?_cons_zero] at b0
  obtain ⟨u0, u1, u2, u3, u4⟩ := x2.five
  have l1 := x2.lt
  clear hS hb1 hb2 hb3 hrb hrv HE HC HSK
  go_wp2_with fail
  refine (HV.out _ _ ((RSl.fair RType.fair).below HB.out x3) (RVal.fair.below HR.out x3) (HM.out.below x3)).mono ?_
  rintro e w4 ⟨rfl, hb4⟩
  have hw4 := below_via x3 hb4 x3.size
  clear u0 u1 u2 u3 u4 l0 l1 b0 hb4 x1 x2 x3 HV
  dsimp only
  go_wp2_with fail
  refine (values_any _ (HW.out.below hw4)).mono ?_
  rintro e w5 ⟨rfl, hb5⟩
  go_wp2_with fail
  go_ret
  exact ⟨rfl, below_via hw4 hb5 hw4.size⟩
end Go.Proofs.YtockolmdffehnaaDoor
