/- The walk of the statement ValueTypes. -/
import Derived.Test.YtmfohocejbgojaaDoorRefTyped
import Derived.Test.YtmfohocejbgojaaDoorRefCopyV
import Derived.Test.YtmfohocejbgojaaDoorRefValues
import Derived.Test.YtmfohocejbgojaaDoorRefSame
import Derived.Test.YtmfohocejbgojaaDoorRefLeastF
namespace Go.Proofs.YtmfohocejbgojaaDoor
open Go Go.RowKit

section
variable {P : Program} {md : Region.Mode} {ops : Array Oper} {Q : Exit → Act → World → Prop} {lt : Nat} {S : World → Prop}
/-- One of three comes up next. -/
theorem late_three {i j k : Nat} {oi oj ok : Oper} {fuel : Nat} {listed : Array Bool} {a : Act} {w : World} (hi : ops[i]? = some oi) (hj : ops[j]? = some oj) (hk : ops[k]? = some ok) (hr : Region.ready md ops listed = [i, j, k])
    (h1 : ∀ K : Act → World → Prop, Shut (∀ a' w', (i < lt → S w') → anyL P md ops Q lt S fuel (listed.setIfInBounds i true) a' w' → K a' w') → if Region.wanted oi (yielded ops a.tmps) = true then Oper.wp P oi a w K Q else K (a.put oi.dst undef) w)
    (h2 : ∀ K : Act → World → Prop, Shut (∀ a' w', (j < lt → S w') → anyL P md ops Q lt S fuel (listed.setIfInBounds j true) a' w' → K a' w') → if Region.wanted oj (yielded ops a.tmps) = true then Oper.wp P oj a w K Q else K (a.put oj.dst undef) w)
    (h3 : ∀ K : Act → World → Prop, Shut (∀ a' w', (k < lt → S w') → anyL P md ops Q lt S fuel (listed.setIfInBounds k true) a' w' → K a' w') → if Region.wanted ok (yielded ops a.tmps) = true then Oper.wp P ok a w K Q else K (a.put ok.dst undef) w) :
    anyL P md ops Q lt S (fuel + 1) listed a w := by
  refine ⟨fun h0 => (by rw [hr] at h0; cases h0), ?_⟩
  rw [hr]
  intro q hq
  rcases List.mem_cons.1 hq with rfl | hq
  · exact wpOp_step hi (fun K' hK => h1 K' (fun a' w' hS hW => hK a' w' ⟨hS, hW⟩))
  · rcases List.mem_cons.1 hq with rfl | hq
    · exact wpOp_step hj (fun K' hK => h2 K' (fun a' w' hS hW => hK a' w' ⟨hS, hW⟩))
    · have : q = k := by simpa using hq
      subst this
      exact wpOp_step hk (fun K' hK => h3 K' (fun a' w' hS hW => hK a' w' ⟨hS, hW⟩))
end
/-- What a callee has made new lies between its world and the one that it left. -/
theorem cut_new {α : Type} {R : Rel α} (hR : Fair R) {W W' : World} {cs : List Value} {x : α} (h : R (New W) W' cs x) : R (fun y => W.heap.size ≤ y ∧ y < W'.heap.size) W' cs x := hR.mono h fun _ h1 h2 => ⟨h1, h2⟩
theorem newBook {B : Nat} {a w : World} (_ : Below B a w) : Box (w.alloc (.cells #[.slice none 0 0] 24)) w.heap.size 24 [.slice none 0 0] := Box.new _ _ _
theorem newBook_size {B : Nat} {a w : World} (_ : Below B a w) : (w.alloc (.cells #[.slice none 0 0] 24)).heap.size = w.heap.size + 1 := by simp
theorem newVal {B : Nat} {a w : World} (_ : Below B a w) : Box (w.alloc (.cells #[.int .i64 0, .int .i64 0, .string ⟨#[]⟩, .slice none 0 0, .slice none 0 0] 28)) w.heap.size 28 [.int .i64 0, .int .i64 0, .string ⟨#[]⟩, .slice none 0 0, .slice none 0 0] := Box.new _ _ _
theorem newVal_size {B : Nat} {a w : World} (_ : Below B a w) : (w.alloc (.cells #[.int .i64 0, .int .i64 0, .string ⟨#[]⟩, .slice none 0 0, .slice none 0 0] 28)).heap.size = w.heap.size + 1 := by simp

theorem box_ne {W : World} {g g' : Nat} {t t' : TypeId} {cs cs' : List Value} (h : Box W g t cs) (h' : Box W g' t' cs') (ht : t ≠ t') : g ≠ g' := by
  rintro rfl
  have := h.symm.trans h'
  injection this with this
  injection this with _ h2 _
  exact ht h2
theorem far_book {W : World} {g9 g10 : Nat} {x : Value} {cs : List Value} (h9 : Box W g9 24 [x]) (h10 : Box W g10 28 cs) (u : Value) : Box (W.setCell ⟨g9, 0, none⟩ u) g10 28 cs := h10.far (p := ⟨g9, 0, none⟩) (fun e => box_ne h9 h10 (by decide) e.symm) u
theorem fin_copy {B : Nat} {a W : World} {g9 g10 l1 u1 l2 u2 : Nat} {x y : Value} {zs : List Value} {b : BookD} {v : ValueD} {c0 c1 c2 c3 c4 : Value} (h9 : Box W g9 24 [x]) (h10 : Box W g10 28 zs) (hz : zs.length = 5)
    (hrb : RSl 5 96 RType (fun y => l1 ≤ y ∧ y < u1) W [y] b) (hrv : RVal (fun y => l2 ≤ y ∧ y < u2) W [c0, c1, c2, c3, c4] v) (hB : Below B a W) (n1 : g9 < l1 ∨ u1 ≤ g9) (n2 : g9 < l2 ∨ u2 ≤ g9) (n3 : g10 < l1 ∨ u1 ≤ g10) (n4 : g10 < l2 ∨ u2 ≤ g10)
    (b9 : B ≤ g9) (b10 : B ≤ g10) (b1 : B ≤ l1) (b2 : B ≤ l2) :
    Box (setCells (W.setCell ⟨g9, 0, none⟩ y) g10 0 [c0, c1, c2, c3, c4]) g9 24 [y] ∧ Box (setCells (W.setCell ⟨g9, 0, none⟩ y) g10 0 [c0, c1, c2, c3, c4]) g10 28 [c0, c1, c2, c3, c4] ∧
    RSl 5 96 RType (fun y => B ≤ y) (setCells (W.setCell ⟨g9, 0, none⟩ y) g10 0 [c0, c1, c2, c3, c4]) [y] b ∧ RVal (fun y => B ≤ y) (setCells (W.setCell ⟨g9, 0, none⟩ y) g10 0 [c0, c1, c2, c3, c4]) [c0, c1, c2, c3, c4] v ∧
    Below B a (setCells (W.setCell ⟨g9, 0, none⟩ y) g10 0 [c0, c1, c2, c3, c4]) := by
  have hne := box_ne h9 h10 (by decide)
  have z9 := h9.set_ 0 y
  have z10 := h10.far (p := ⟨g9, 0, none⟩) (fun e => hne e.symm) y
  have k1 : Keep (fun y => l1 ≤ y ∧ y < u1) W (W.setCell ⟨g9, 0, none⟩ y) := Keep.setCell W (a := ⟨g9, 0, none⟩) y (by show ¬ (l1 ≤ g9 ∧ g9 < u1); omega)
  have k2 : Keep (fun y => l2 ≤ y ∧ y < u2) W (W.setCell ⟨g9, 0, none⟩ y) := Keep.setCell W (a := ⟨g9, 0, none⟩) y (by show ¬ (l2 ≤ g9 ∧ g9 < u2); omega)
  refine ⟨z9.farCells hne _ 0, z10.setCells _ hz.symm, ?_, ?_, below_setCells b10 _ 0 _ (hB.setCell (p := ⟨g9, 0, none⟩) b9 y)⟩
  · exact (RSl.fair RType.fair).mono ((RSl.fair RType.fair).keep ((RSl.fair RType.fair).keep hrb k1) (Keep.setCells (by show ¬ (l1 ≤ g10 ∧ g10 < u1); omega) _ 0 _)) (fun q hq _ => Nat.le_trans b1 hq.1)
  · exact RVal.fair.mono (RVal.fair.keep (RVal.fair.keep hrv k2) (Keep.setCells (by show ¬ (l2 ≤ g10 ∧ g10 < u2); omega) _ 0 _)) (fun q hq _ => Nat.le_trans b2 hq.1)

set_option maxRecDepth 100000 in
set_option maxHeartbeats 8000000 in
theorem valueTypes_any (S S' : Nat → Prop) (vb : Value) (b : BookD) (name : ByteArray) (id : Int) (cs : List Value) (v : ValueD) (w : World) (hb0 : RSl 5 96 RType S w [vb] b) (hr0 : RVal S' w cs v) (hW : Words w) (hM : MaxL w) (hB : BookOk b) (hsm : BookSmall b) (hok : okV v) (hd : depthV v ≤ 4611686018427387904) (hc : countV v ≤ 4611686018427387904) :
    Calls Tryd.prog 4 #[.agg #[vb], .string name, .int .i64 id, .agg cs.toArray] w (Ret w (.bool true)) := by
  obtain ⟨A, cap, rfl, hlc, hlb⟩ := hb0.form
  have hLa : ∀ S1 A' c' W, RSl 5 96 RType S1 W [.slice A' b.length c'] b → Words W → Calls Tryd.prog 11 #[.agg #[.slice A' b.length c'], .string name] W (ValCode W (LeastF b name)) := fun S1 A' c' W h0 h1 => vLeast_any S1 _ b name W h0 h1 hB
  have hLb : ∀ W, RSl 5 96 RType S W [.slice A b.length cap] b → MaxL W → Calls Tryd.prog 12 #[.agg #[.slice A b.length cap], .string name] W (ValCode W (LeastF b name)) := fun W h0 h1 => leastValue_any S _ b name W h0 h1 hB hsm
  have hFa : ∀ S1 A' c' W, RSl 5 96 RType S1 W [.slice A' b.length c'] b → Words W → Calls Tryd.prog 13 #[.agg #[.slice A' b.length c'], .string name, .int .i64 id] W (ValCode W (LeastFieldF b name id)) := fun S1 A' c' W h0 h1 => vLeastOf_any S1 _ b name id W h0 h1 hB
  have hFb : ∀ W, RSl 5 96 RType S W [.slice A b.length cap] b → MaxL W → Calls Tryd.prog 14 #[.agg #[.slice A b.length cap], .string name, .int .i64 id] W (ValCode W (LeastFieldF b name id)) := fun W h0 h1 => leastField_any S _ b name id W h0 h1 hB hsm
  have hSa : ∀ S1 W cs, RVal S1 W cs v → Calls Tryd.prog 15 #[.agg cs.toArray] W (Two W (.int .i64 (depthV v)) (.int .i64 (countV v))) := fun S1 W cs h => size_any (depthV v) S1 cs v W (Nat.le_refl _) h hd hc
  have hSb : ∀ W cs, RVal S' W cs v → Calls Tryd.prog 16 #[.agg cs.toArray] W (Two W (.int .i64 (depthV v)) (.int .i64 (countV v))) := fun W cs h => sizeOf_any (depthV v) S' cs v W (Nat.le_refl _) h hd hc
  have hTa : ∀ S1 S2 A' c' W cs, RSl 5 96 RType S1 W [.slice A' b.length c'] b → RVal S2 W cs v → Words W → Calls Tryd.prog 17 #[.agg #[.slice A' b.length c'], .string name, .agg cs.toArray] W (Ret W (.int .i64 (TypedF b name v))) := fun S1 S2 A' c' W cs h0 h1 h2 => vTyped_any S1 S2 _ b name cs v W h0 h1 h2 hB hok hd hc
  have hTb : ∀ W cs, RSl 5 96 RType S W [.slice A b.length cap] b → RVal S' W cs v → MaxL W → Calls Tryd.prog 18 #[.agg #[.slice A b.length cap], .string name, .agg cs.toArray] W (Ret W (.int .i64 (TypedF b name v))) := fun W cs h0 h1 h2 => isTyped_any S S' _ b name cs v W h0 h1 h2 hB hsm hok hd hc
  have hcv : ∀ W cs, RVal S' W cs v → Calls Tryd.prog 10 #[.agg cs.toArray] W (CopyVPost W v) := fun W cs h => copyValue_any (depthV v) S' cs v W (Nat.le_refl _) h
  have hss : ∀ S1 S2 (x : ValueD) cs cs' W, RVal S1 W cs x → RVal S2 W cs' x → Calls Tryd.prog 8 #[.agg cs.toArray, .agg cs'.toArray] W (Ret W (.bool true)) := fun S1 S2 x cs cs' W h1 h2 => same_anyR S1 S2 _ cs cs' x W (Nat.le_refl _) h1 h2
  obtain ⟨⟨⟨xk, xn, xs, xi, xl⟩, xc⟩, hX⟩ : ∃ r, r = LeastF b name := ⟨_, rfl⟩
  obtain ⟨⟨⟨yk, yn, ys, yi, yl⟩, yc⟩, hY⟩ : ∃ r, r = LeastFieldF b name id := ⟨_, rfl⟩
  obtain ⟨dn, hdn⟩ : ∃ n, n = depthV v := ⟨_, rfl⟩
  obtain ⟨cn, hcn⟩ : ∃ n, n = countV v := ⟨_, rfl⟩
  obtain ⟨tf, htf⟩ : ∃ n, n = TypedF b name v := ⟨_, rfl⟩
  rw [← hX] at hLa hLb
  rw [← hY] at hFa hFb
  rw [← hdn, ← hcn] at hSa hSb
  rw [← htf] at hTa hTb
  clear hok hd hc hX hY hdn hcn htf hB hsm
  obtain ⟨vk, vn, vs, vids, vls⟩ := v
  obtain ⟨D1, f1, D2, f2, rfl, -, -⟩ := hr0.parts
  have HB := Lib.hid hb0
  have HR := Lib.hid hr0
  have HW := Lib.hid hW
  have HM := Lib.hid hM
  have HLa := Lib.hid hLa
  have HLb := Lib.hid hLb
  have HFa := Lib.hid hFa
  have HFb := Lib.hid hFb
  have HSa := Lib.hid hSa
  have HSb := Lib.hid hSb
  have HTa := Lib.hid hTa
  have HTb := Lib.hid hTb
  have HSS := Lib.hid hss
  obtain ⟨x1, x2, x3⟩ := boxes2 w [.slice A b.length cap] [.int .i64 vk, .int .i64 vn, .string vs, .slice D1 vids.length f1, .slice D2 vls.length f2] 24 28
  clear hb0 hr0 hW hM hLa hLb hFa hFb hSa hSb hTa hTb hss
  go_enter Tryd.func4, Tryd.ntmps4
  go_upto_region 1 with fail
  have hsz2 : w.heap.size + 1 + 1 ≤ ((w.alloc (.cells #[.slice A b.length cap] 24)).alloc (.cells #[.int .i64 vk, .int .i64 vn, .string vs, .slice D1 vids.length f1, .slice D2 vls.length f2] 28)).heap.size := by simp
  generalize (w.alloc (.cells #[.slice A b.length cap] 24)).alloc (.cells #[.int .i64 vk, .int .i64 vn, .string vs, .slice D1 vids.length f1, .slice D2 vls.length f2] 28) = W0 at *
  have hup : ∀ W', RowKit.Below W0.heap.size W0 W' → RowKit.Below w.heap.size w W' := fun W' h => below_via x3 h x3.size
  have HSK := Lib.hid (fun (W' : World) (h : RowKit.Below W0.heap.size W0 W') => (⟨(x1.below h x1.lt).cell 0, (x2.below h x2.lt).five⟩ : World.cell? W' ⟨w.heap.size, 0, none⟩ = some (.slice A b.length cap) ∧ (World.cell? W' ⟨w.heap.size + 1, 0, none⟩ = some (.int .i64 vk) ∧ World.cell? W' ⟨w.heap.size + 1, 1, none⟩ = some (.int .i64 vn) ∧ World.cell? W' ⟨w.heap.size + 1, 2, none⟩ = some (.string vs) ∧ World.cell? W' ⟨w.heap.size + 1, 3, none⟩ = some (.slice D1 vids.length f1) ∧ World.cell? W' ⟨w.heap.size + 1, 4, none⟩ = some (.slice D2 vls.length f2))))
  have HCB := Lib.hid (fun (W' : World) (h : RowKit.Below W0.heap.size W0 W') => copyBook_any S (.slice A b.length cap) b W' ((RSl.fair RType.fair).below HB.out (hup W' h)))
  have HCV := Lib.hid (fun (W' : World) (h : RowKit.Below W0.heap.size W0 W') => hcv W' [.int .i64 vk, .int .i64 vn, .string vs, .slice D1 vids.length f1, .slice D2 vls.length f2] (RVal.fair.below HR.out (hup W' h)))
  have HUP := Lib.hid hup
  clear hcv hup
  go_cut [9, 10] from 23 to 26 (fun p q W' => ∃ g9 g10 A' c' E1 e1 E2 e2, p = .pointer (some ⟨g9, 0, none⟩) ∧ q = .pointer (some ⟨g10, 0, none⟩) ∧ Box W' g9 24 [.slice A' b.length c'] ∧ Box W' g10 28 [.int .i64 vk, .int .i64 vn, .string vs, .slice E1 vids.length e1, .slice E2 vls.length e2] ∧
      RSl 5 96 RType (fun y => W0.heap.size ≤ y) W' [.slice A' b.length c'] b ∧ RVal (fun y => W0.heap.size ≤ y) W' [.int .i64 vk, .int .i64 vn, .string vs, .slice E1 vids.length e1, .slice E2 vls.length e2] (.mk vk vn vs vids vls) ∧ RowKit.Below W0.heap.size W0 W')
  case first =>
    --[TREE
    have hB := below_drew (Below.refl W0.heap.size W0)
    have hS := HSK.out _ hB
    have HsW : Hid (W0.drew.heap.size = W0.heap.size) := rfl
    refine late_start (fun W' => World.cell? W' ⟨w.heap.size, 0, none⟩ = some (.slice A b.length cap) ∧ (World.cell? W' ⟨w.heap.size + 1, 0, none⟩ = some (.int .i64 vk) ∧ World.cell? W' ⟨w.heap.size + 1, 1, none⟩ = some (.int .i64 vn) ∧ World.cell? W' ⟨w.heap.size + 1, 2, none⟩ = some (.string vs) ∧ World.cell? W' ⟨w.heap.size + 1, 3, none⟩ = some (.slice D1 vids.length f1) ∧ World.cell? W' ⟨w.heap.size + 1, 4, none⟩ = some (.slice D2 vls.length f2))) 6 (by kernel_rfl) ?_
    generalize W0.drew = Wb at hB hS HsW ⊢
    refine late_take (i := 0) (v := ?_) rfl (by kernel_rfl) (fun _ _ _ h => h) ⟨by kernel_rfl, ?_⟩ hS ?_
    rotate_left
    · (intro w hSw; (try dsimp only at hSw); go_simp; first | done | with_reducible rfl)
    try simp only [Act.put, List.getElem_toArray, List.getElem_cons_zero, List.getElem_cons_succ, List.setIfInBounds_toArray, List.set_cons_zero, List.set_cons_succ]
    refine late_take (i := 2) (v := ?_) rfl (by kernel_rfl) (fun _ _ _ h => h) ⟨by kernel_rfl, ?_⟩ hS ?_
    rotate_left
    · (intro w hSw; (try dsimp only at hSw); go_simp; first | done | with_reducible rfl)
    try simp only [Act.put, List.getElem_toArray, List.getElem_cons_zero, List.getElem_cons_succ, List.setIfInBounds_toArray, List.set_cons_zero, List.set_cons_succ]
    refine late_three (i := 1) (j := 4) (k := 5) rfl rfl rfl (by kernel_rfl) (fun K hK => ?_) (fun K hK => ?_) (fun K hK => ?_)
    · go_simp
      refine (HCB.out _ hB).mono ?_
      rintro e wb ⟨A', c', rfl, hrb0, hbb⟩
      have hrb := cut_new (RSl.fair RType.fair) hrb0
      have hsb := hbb.size
      (first | (replace hrv := RVal.fair.below hrv hbb) | skip)
      (first | (replace hG9 := hG9.below hbb hG9.lt) | skip)
      (first | (replace hG10 := hG10.below hbb hG10.lt) | skip)
      replace hB := below_via hB hbb hB.size
      clear hS hrb0 hbb
      have hS := HSK.out _ hB
      refine hK.out _ _ (fun _ => hS) ?_
      clear hK K
      try simp only [Act.put, List.getElem_toArray, List.getElem_cons_zero, List.getElem_cons_succ, List.setIfInBounds_toArray, List.set_cons_zero, List.set_cons_succ]
      refine late_three (i := 3) (j := 4) (k := 5) rfl rfl rfl (by kernel_rfl) (fun K hK => ?_) (fun K hK => ?_) (fun K hK => ?_)
      · go_simp
        refine (HCV.out _ hB).mono ?_
        rintro e wv ⟨cs2, rfl, hrv0, hbv⟩
        obtain ⟨E1, e1, E2, e2, rfl, -, -⟩ := hrv0.parts
        have hrv := cut_new RVal.fair hrv0
        have hsv := hbv.size
        (first | (replace hrb := (RSl.fair RType.fair).below hrb hbv) | skip)
        (first | (replace hG9 := hG9.below hbv hG9.lt) | skip)
        (first | (replace hG10 := hG10.below hbv hG10.lt) | skip)
        replace hB := below_via hB hbv hB.size
        clear hS hrv0 hbv
        have hS := HSK.out _ hB
        refine hK.out _ _ (fun _ => hS) ?_
        clear hK K
        try simp only [Act.put, List.getElem_toArray, List.getElem_cons_zero, List.getElem_cons_succ, List.setIfInBounds_toArray, List.set_cons_zero, List.set_cons_succ]
        refine late_two (i := 4) (j := 5) rfl rfl (by kernel_rfl) (fun K hK => ?_) (fun K hK => ?_)
        · go_simp
          have hG9 := newBook hB
          have Hs9 := Lib.hid (newBook_size hB)
          (first | (replace hrb := (RSl.fair RType.fair).keep hrb (Keep.alloc _ _ (.cells #[.slice none 0 0] 24))) | skip)
          (first | (replace hrv := RVal.fair.keep hrv (Keep.alloc _ _ (.cells #[.slice none 0 0] 24))) | skip)
          (first | (replace hG10 := hG10.alloc (.cells #[.slice none 0 0] 24)) | skip)
          replace hB := hB.alloc hB.size (.cells #[.slice none 0 0] 24)
          clear hS
          have hS := HSK.out _ hB
          refine hK.out _ _ (fun _ => hS) ?_
          clear hK K
          try simp only [Act.put, List.getElem_toArray, List.getElem_cons_zero, List.getElem_cons_succ, List.setIfInBounds_toArray, List.set_cons_zero, List.set_cons_succ]
          generalize World.alloc _ (.cells #[.slice none 0 0] 24) = W9 at *
          refine late_one (i := 5) rfl (by kernel_rfl) (fun K hK => ?_)
          go_simp
          have hG10 := newVal hB
          have Hs10 := Lib.hid (newVal_size hB)
          (first | (replace hrb := (RSl.fair RType.fair).keep hrb (Keep.alloc _ _ (.cells #[.int .i64 0, .int .i64 0, .string ⟨#[]⟩, .slice none 0 0, .slice none 0 0] 28))) | skip)
          (first | (replace hrv := RVal.fair.keep hrv (Keep.alloc _ _ (.cells #[.int .i64 0, .int .i64 0, .string ⟨#[]⟩, .slice none 0 0, .slice none 0 0] 28))) | skip)
          (first | (replace hG9 := hG9.alloc (.cells #[.int .i64 0, .int .i64 0, .string ⟨#[]⟩, .slice none 0 0, .slice none 0 0] 28)) | skip)
          replace hB := hB.alloc hB.size (.cells #[.int .i64 0, .int .i64 0, .string ⟨#[]⟩, .slice none 0 0, .slice none 0 0] 28)
          clear hS
          have hS := HSK.out _ hB
          refine hK.out _ _ (fun _ => hS) ?_
          clear hK K
          try simp only [Act.put, List.getElem_toArray, List.getElem_cons_zero, List.getElem_cons_succ, List.setIfInBounds_toArray, List.set_cons_zero, List.set_cons_succ]
          generalize World.alloc _ (.cells #[.int .i64 0, .int .i64 0, .string ⟨#[]⟩, .slice none 0 0, .slice none 0 0] 28) = W10 at *
          have r9 := hG9.cell 0
          have fr9 := hG9.frozen 0
          have lt9 := hG9.lt
          simp only [List.getElem?_cons_zero] at r9
          refine late_one (i := 6) rfl (by kernel_rfl) (fun K hK => ?_)
          go_simp
          have z10 := far_book hG9 hG10 (.slice A' b.length c')
          obtain ⟨r0, r1, r2, r3, r4⟩ := z10.five
          have q0 := hG10.frozen 0
          have q1 := hG10.frozen 1
          have q2 := hG10.frozen 2
          have q3 := hG10.frozen 3
          have q4 := hG10.frozen 4
          have lt10 := z10.lt
          clear r9 fr9 lt9
          refine hK.out _ _ (fun h => absurd h (by decide)) ?_
          clear hK K
          try simp only [Act.put, List.getElem_toArray, List.getElem_cons_zero, List.getElem_cons_succ, List.setIfInBounds_toArray, List.set_cons_zero, List.set_cons_succ]
          refine late_one (i := 7) rfl (by kernel_rfl) (fun K hK => ?_)
          go_simp
          clear r0 r1 r2 r3 r4 q0 q1 q2 q3 q4 lt10 z10
          refine hK.out _ _ (fun h => absurd h (by decide)) ?_
          clear hK K
          try simp only [Act.put, List.getElem_toArray, List.getElem_cons_zero, List.getElem_cons_succ, List.setIfInBounds_toArray, List.set_cons_zero, List.set_cons_succ]
          refine late_done (by kernel_rfl) ?_ _
          go_wp2_with fail
          have hs9 := Hs9.out
          have hs10 := Hs10.out
          have hsW := HsW.out
          go_meet
          case rel => exact ⟨_, _, A', c', E1, e1, E2, e2, rfl, rfl, fin_copy hG9 hG10 rfl hrb hrv hB (by go_light; omega) (by go_light; omega) (by go_light; omega) (by go_light; omega) (by go_light; omega) (by go_light; omega) (by go_light; omega) (by go_light; omega)⟩
        · go_simp
          have hG10 := newVal hB
          have Hs10 := Lib.hid (newVal_size hB)
          (first | (replace hrb := (RSl.fair RType.fair).keep hrb (Keep.alloc _ _ (.cells #[.int .i64 0, .int .i64 0, .string ⟨#[]⟩, .slice none 0 0, .slice none 0 0] 28))) | skip)
          (first | (replace hrv := RVal.fair.keep hrv (Keep.alloc _ _ (.cells #[.int .i64 0, .int .i64 0, .string ⟨#[]⟩, .slice none 0 0, .slice none 0 0] 28))) | skip)
          (first | (replace hG9 := hG9.alloc (.cells #[.int .i64 0, .int .i64 0, .string ⟨#[]⟩, .slice none 0 0, .slice none 0 0] 28)) | skip)
          replace hB := hB.alloc hB.size (.cells #[.int .i64 0, .int .i64 0, .string ⟨#[]⟩, .slice none 0 0, .slice none 0 0] 28)
          clear hS
          have hS := HSK.out _ hB
          refine hK.out _ _ (fun _ => hS) ?_
          clear hK K
          try simp only [Act.put, List.getElem_toArray, List.getElem_cons_zero, List.getElem_cons_succ, List.setIfInBounds_toArray, List.set_cons_zero, List.set_cons_succ]
          generalize World.alloc _ (.cells #[.int .i64 0, .int .i64 0, .string ⟨#[]⟩, .slice none 0 0, .slice none 0 0] 28) = W10 at *
          refine late_one (i := 4) rfl (by kernel_rfl) (fun K hK => ?_)
          go_simp
          have hG9 := newBook hB
          have Hs9 := Lib.hid (newBook_size hB)
          (first | (replace hrb := (RSl.fair RType.fair).keep hrb (Keep.alloc _ _ (.cells #[.slice none 0 0] 24))) | skip)
          (first | (replace hrv := RVal.fair.keep hrv (Keep.alloc _ _ (.cells #[.slice none 0 0] 24))) | skip)
          (first | (replace hG10 := hG10.alloc (.cells #[.slice none 0 0] 24)) | skip)
          replace hB := hB.alloc hB.size (.cells #[.slice none 0 0] 24)
          clear hS
          have hS := HSK.out _ hB
          refine hK.out _ _ (fun _ => hS) ?_
          clear hK K
          try simp only [Act.put, List.getElem_toArray, List.getElem_cons_zero, List.getElem_cons_succ, List.setIfInBounds_toArray, List.set_cons_zero, List.set_cons_succ]
          generalize World.alloc _ (.cells #[.slice none 0 0] 24) = W9 at *
          have r9 := hG9.cell 0
          have fr9 := hG9.frozen 0
          have lt9 := hG9.lt
          simp only [List.getElem?_cons_zero] at r9
          refine late_one (i := 6) rfl (by kernel_rfl) (fun K hK => ?_)
          go_simp
          have z10 := far_book hG9 hG10 (.slice A' b.length c')
          obtain ⟨r0, r1, r2, r3, r4⟩ := z10.five
          have q0 := hG10.frozen 0
          have q1 := hG10.frozen 1
          have q2 := hG10.frozen 2
          have q3 := hG10.frozen 3
          have q4 := hG10.frozen 4
          have lt10 := z10.lt
          clear r9 fr9 lt9
          refine hK.out _ _ (fun h => absurd h (by decide)) ?_
          clear hK K
          try simp only [Act.put, List.getElem_toArray, List.getElem_cons_zero, List.getElem_cons_succ, List.setIfInBounds_toArray, List.set_cons_zero, List.set_cons_succ]
          refine late_one (i := 7) rfl (by kernel_rfl) (fun K hK => ?_)
          go_simp
          clear r0 r1 r2 r3 r4 q0 q1 q2 q3 q4 lt10 z10
          refine hK.out _ _ (fun h => absurd h (by decide)) ?_
          clear hK K
          try simp only [Act.put, List.getElem_toArray, List.getElem_cons_zero, List.getElem_cons_succ, List.setIfInBounds_toArray, List.set_cons_zero, List.set_cons_succ]
          refine late_done (by kernel_rfl) ?_ _
          go_wp2_with fail
          have hs9 := Hs9.out
          have hs10 := Hs10.out
          have hsW := HsW.out
          go_meet
          case rel => exact ⟨_, _, A', c', E1, e1, E2, e2, rfl, rfl, fin_copy hG9 hG10 rfl hrb hrv hB (by go_light; omega) (by go_light; omega) (by go_light; omega) (by go_light; omega) (by go_light; omega) (by go_light; omega) (by go_light; omega) (by go_light; omega)⟩
      · go_simp
        have hG9 := newBook hB
        have Hs9 := Lib.hid (newBook_size hB)
        (first | (replace hrb := (RSl.fair RType.fair).keep hrb (Keep.alloc _ _ (.cells #[.slice none 0 0] 24))) | skip)
        (first | (replace hrv := RVal.fair.keep hrv (Keep.alloc _ _ (.cells #[.slice none 0 0] 24))) | skip)
        (first | (replace hG10 := hG10.alloc (.cells #[.slice none 0 0] 24)) | skip)
        replace hB := hB.alloc hB.size (.cells #[.slice none 0 0] 24)
        clear hS
        have hS := HSK.out _ hB
        refine hK.out _ _ (fun _ => hS) ?_
        clear hK K
        try simp only [Act.put, List.getElem_toArray, List.getElem_cons_zero, List.getElem_cons_succ, List.setIfInBounds_toArray, List.set_cons_zero, List.set_cons_succ]
        generalize World.alloc _ (.cells #[.slice none 0 0] 24) = W9 at *
        refine late_two (i := 3) (j := 5) rfl rfl (by kernel_rfl) (fun K hK => ?_) (fun K hK => ?_)
        · go_simp
          refine (HCV.out _ hB).mono ?_
          rintro e wv ⟨cs2, rfl, hrv0, hbv⟩
          obtain ⟨E1, e1, E2, e2, rfl, -, -⟩ := hrv0.parts
          have hrv := cut_new RVal.fair hrv0
          have hsv := hbv.size
          (first | (replace hrb := (RSl.fair RType.fair).below hrb hbv) | skip)
          (first | (replace hG9 := hG9.below hbv hG9.lt) | skip)
          (first | (replace hG10 := hG10.below hbv hG10.lt) | skip)
          replace hB := below_via hB hbv hB.size
          clear hS hrv0 hbv
          have hS := HSK.out _ hB
          refine hK.out _ _ (fun _ => hS) ?_
          clear hK K
          try simp only [Act.put, List.getElem_toArray, List.getElem_cons_zero, List.getElem_cons_succ, List.setIfInBounds_toArray, List.set_cons_zero, List.set_cons_succ]
          refine late_one (i := 5) rfl (by kernel_rfl) (fun K hK => ?_)
          go_simp
          have hG10 := newVal hB
          have Hs10 := Lib.hid (newVal_size hB)
          (first | (replace hrb := (RSl.fair RType.fair).keep hrb (Keep.alloc _ _ (.cells #[.int .i64 0, .int .i64 0, .string ⟨#[]⟩, .slice none 0 0, .slice none 0 0] 28))) | skip)
          (first | (replace hrv := RVal.fair.keep hrv (Keep.alloc _ _ (.cells #[.int .i64 0, .int .i64 0, .string ⟨#[]⟩, .slice none 0 0, .slice none 0 0] 28))) | skip)
          (first | (replace hG9 := hG9.alloc (.cells #[.int .i64 0, .int .i64 0, .string ⟨#[]⟩, .slice none 0 0, .slice none 0 0] 28)) | skip)
          replace hB := hB.alloc hB.size (.cells #[.int .i64 0, .int .i64 0, .string ⟨#[]⟩, .slice none 0 0, .slice none 0 0] 28)
          clear hS
          have hS := HSK.out _ hB
          refine hK.out _ _ (fun _ => hS) ?_
          clear hK K
          try simp only [Act.put, List.getElem_toArray, List.getElem_cons_zero, List.getElem_cons_succ, List.setIfInBounds_toArray, List.set_cons_zero, List.set_cons_succ]
          generalize World.alloc _ (.cells #[.int .i64 0, .int .i64 0, .string ⟨#[]⟩, .slice none 0 0, .slice none 0 0] 28) = W10 at *
          have r9 := hG9.cell 0
          have fr9 := hG9.frozen 0
          have lt9 := hG9.lt
          simp only [List.getElem?_cons_zero] at r9
          refine late_one (i := 6) rfl (by kernel_rfl) (fun K hK => ?_)
          go_simp
          have z10 := far_book hG9 hG10 (.slice A' b.length c')
          obtain ⟨r0, r1, r2, r3, r4⟩ := z10.five
          have q0 := hG10.frozen 0
          have q1 := hG10.frozen 1
          have q2 := hG10.frozen 2
          have q3 := hG10.frozen 3
          have q4 := hG10.frozen 4
          have lt10 := z10.lt
          clear r9 fr9 lt9
          refine hK.out _ _ (fun h => absurd h (by decide)) ?_
          clear hK K
          try simp only [Act.put, List.getElem_toArray, List.getElem_cons_zero, List.getElem_cons_succ, List.setIfInBounds_toArray, List.set_cons_zero, List.set_cons_succ]
          refine late_one (i := 7) rfl (by kernel_rfl) (fun K hK => ?_)
          go_simp
          clear r0 r1 r2 r3 r4 q0 q1 q2 q3 q4 lt10 z10
          refine hK.out _ _ (fun h => absurd h (by decide)) ?_
          clear hK K
          try simp only [Act.put, List.getElem_toArray, List.getElem_cons_zero, List.getElem_cons_succ, List.setIfInBounds_toArray, List.set_cons_zero, List.set_cons_succ]
          refine late_done (by kernel_rfl) ?_ _
          go_wp2_with fail
          have hs9 := Hs9.out
          have hs10 := Hs10.out
          have hsW := HsW.out
          go_meet
          case rel => exact ⟨_, _, A', c', E1, e1, E2, e2, rfl, rfl, fin_copy hG9 hG10 rfl hrb hrv hB (by go_light; omega) (by go_light; omega) (by go_light; omega) (by go_light; omega) (by go_light; omega) (by go_light; omega) (by go_light; omega) (by go_light; omega)⟩
        · go_simp
          have hG10 := newVal hB
          have Hs10 := Lib.hid (newVal_size hB)
          (first | (replace hrb := (RSl.fair RType.fair).keep hrb (Keep.alloc _ _ (.cells #[.int .i64 0, .int .i64 0, .string ⟨#[]⟩, .slice none 0 0, .slice none 0 0] 28))) | skip)
          (first | (replace hrv := RVal.fair.keep hrv (Keep.alloc _ _ (.cells #[.int .i64 0, .int .i64 0, .string ⟨#[]⟩, .slice none 0 0, .slice none 0 0] 28))) | skip)
          (first | (replace hG9 := hG9.alloc (.cells #[.int .i64 0, .int .i64 0, .string ⟨#[]⟩, .slice none 0 0, .slice none 0 0] 28)) | skip)
          replace hB := hB.alloc hB.size (.cells #[.int .i64 0, .int .i64 0, .string ⟨#[]⟩, .slice none 0 0, .slice none 0 0] 28)
          clear hS
          have hS := HSK.out _ hB
          refine hK.out _ _ (fun _ => hS) ?_
          clear hK K
          try simp only [Act.put, List.getElem_toArray, List.getElem_cons_zero, List.getElem_cons_succ, List.setIfInBounds_toArray, List.set_cons_zero, List.set_cons_succ]
          generalize World.alloc _ (.cells #[.int .i64 0, .int .i64 0, .string ⟨#[]⟩, .slice none 0 0, .slice none 0 0] 28) = W10 at *
          refine late_one (i := 3) rfl (by kernel_rfl) (fun K hK => ?_)
          go_simp
          refine (HCV.out _ hB).mono ?_
          rintro e wv ⟨cs2, rfl, hrv0, hbv⟩
          obtain ⟨E1, e1, E2, e2, rfl, -, -⟩ := hrv0.parts
          have hrv := cut_new RVal.fair hrv0
          have hsv := hbv.size
          (first | (replace hrb := (RSl.fair RType.fair).below hrb hbv) | skip)
          (first | (replace hG9 := hG9.below hbv hG9.lt) | skip)
          (first | (replace hG10 := hG10.below hbv hG10.lt) | skip)
          replace hB := below_via hB hbv hB.size
          clear hS hrv0 hbv
          have hS := HSK.out _ hB
          refine hK.out _ _ (fun _ => hS) ?_
          clear hK K
          try simp only [Act.put, List.getElem_toArray, List.getElem_cons_zero, List.getElem_cons_succ, List.setIfInBounds_toArray, List.set_cons_zero, List.set_cons_succ]
          have r9 := hG9.cell 0
          have fr9 := hG9.frozen 0
          have lt9 := hG9.lt
          simp only [List.getElem?_cons_zero] at r9
          refine late_one (i := 6) rfl (by kernel_rfl) (fun K hK => ?_)
          go_simp
          have z10 := far_book hG9 hG10 (.slice A' b.length c')
          obtain ⟨r0, r1, r2, r3, r4⟩ := z10.five
          have q0 := hG10.frozen 0
          have q1 := hG10.frozen 1
          have q2 := hG10.frozen 2
          have q3 := hG10.frozen 3
          have q4 := hG10.frozen 4
          have lt10 := z10.lt
          clear r9 fr9 lt9
          refine hK.out _ _ (fun h => absurd h (by decide)) ?_
          clear hK K
          try simp only [Act.put, List.getElem_toArray, List.getElem_cons_zero, List.getElem_cons_succ, List.setIfInBounds_toArray, List.set_cons_zero, List.set_cons_succ]
          refine late_one (i := 7) rfl (by kernel_rfl) (fun K hK => ?_)
          go_simp
          clear r0 r1 r2 r3 r4 q0 q1 q2 q3 q4 lt10 z10
          refine hK.out _ _ (fun h => absurd h (by decide)) ?_
          clear hK K
          try simp only [Act.put, List.getElem_toArray, List.getElem_cons_zero, List.getElem_cons_succ, List.setIfInBounds_toArray, List.set_cons_zero, List.set_cons_succ]
          refine late_done (by kernel_rfl) ?_ _
          go_wp2_with fail
          have hs9 := Hs9.out
          have hs10 := Hs10.out
          have hsW := HsW.out
          go_meet
          case rel => exact ⟨_, _, A', c', E1, e1, E2, e2, rfl, rfl, fin_copy hG9 hG10 rfl hrb hrv hB (by go_light; omega) (by go_light; omega) (by go_light; omega) (by go_light; omega) (by go_light; omega) (by go_light; omega) (by go_light; omega) (by go_light; omega)⟩
      · go_simp
        have hG10 := newVal hB
        have Hs10 := Lib.hid (newVal_size hB)
        (first | (replace hrb := (RSl.fair RType.fair).keep hrb (Keep.alloc _ _ (.cells #[.int .i64 0, .int .i64 0, .string ⟨#[]⟩, .slice none 0 0, .slice none 0 0] 28))) | skip)
        (first | (replace hrv := RVal.fair.keep hrv (Keep.alloc _ _ (.cells #[.int .i64 0, .int .i64 0, .string ⟨#[]⟩, .slice none 0 0, .slice none 0 0] 28))) | skip)
        (first | (replace hG9 := hG9.alloc (.cells #[.int .i64 0, .int .i64 0, .string ⟨#[]⟩, .slice none 0 0, .slice none 0 0] 28)) | skip)
        replace hB := hB.alloc hB.size (.cells #[.int .i64 0, .int .i64 0, .string ⟨#[]⟩, .slice none 0 0, .slice none 0 0] 28)
        clear hS
        have hS := HSK.out _ hB
        refine hK.out _ _ (fun _ => hS) ?_
        clear hK K
        try simp only [Act.put, List.getElem_toArray, List.getElem_cons_zero, List.getElem_cons_succ, List.setIfInBounds_toArray, List.set_cons_zero, List.set_cons_succ]
        generalize World.alloc _ (.cells #[.int .i64 0, .int .i64 0, .string ⟨#[]⟩, .slice none 0 0, .slice none 0 0] 28) = W10 at *
        refine late_two (i := 3) (j := 4) rfl rfl (by kernel_rfl) (fun K hK => ?_) (fun K hK => ?_)
        · go_simp
          refine (HCV.out _ hB).mono ?_
          rintro e wv ⟨cs2, rfl, hrv0, hbv⟩
          obtain ⟨E1, e1, E2, e2, rfl, -, -⟩ := hrv0.parts
          have hrv := cut_new RVal.fair hrv0
          have hsv := hbv.size
          (first | (replace hrb := (RSl.fair RType.fair).below hrb hbv) | skip)
          (first | (replace hG9 := hG9.below hbv hG9.lt) | skip)
          (first | (replace hG10 := hG10.below hbv hG10.lt) | skip)
          replace hB := below_via hB hbv hB.size
          clear hS hrv0 hbv
          have hS := HSK.out _ hB
          refine hK.out _ _ (fun _ => hS) ?_
          clear hK K
          try simp only [Act.put, List.getElem_toArray, List.getElem_cons_zero, List.getElem_cons_succ, List.setIfInBounds_toArray, List.set_cons_zero, List.set_cons_succ]
          refine late_one (i := 4) rfl (by kernel_rfl) (fun K hK => ?_)
          go_simp
          have hG9 := newBook hB
          have Hs9 := Lib.hid (newBook_size hB)
          (first | (replace hrb := (RSl.fair RType.fair).keep hrb (Keep.alloc _ _ (.cells #[.slice none 0 0] 24))) | skip)
          (first | (replace hrv := RVal.fair.keep hrv (Keep.alloc _ _ (.cells #[.slice none 0 0] 24))) | skip)
          (first | (replace hG10 := hG10.alloc (.cells #[.slice none 0 0] 24)) | skip)
          replace hB := hB.alloc hB.size (.cells #[.slice none 0 0] 24)
          clear hS
          have hS := HSK.out _ hB
          refine hK.out _ _ (fun _ => hS) ?_
          clear hK K
          try simp only [Act.put, List.getElem_toArray, List.getElem_cons_zero, List.getElem_cons_succ, List.setIfInBounds_toArray, List.set_cons_zero, List.set_cons_succ]
          generalize World.alloc _ (.cells #[.slice none 0 0] 24) = W9 at *
          have r9 := hG9.cell 0
          have fr9 := hG9.frozen 0
          have lt9 := hG9.lt
          simp only [List.getElem?_cons_zero] at r9
          refine late_one (i := 6) rfl (by kernel_rfl) (fun K hK => ?_)
          go_simp
          have z10 := far_book hG9 hG10 (.slice A' b.length c')
          obtain ⟨r0, r1, r2, r3, r4⟩ := z10.five
          have q0 := hG10.frozen 0
          have q1 := hG10.frozen 1
          have q2 := hG10.frozen 2
          have q3 := hG10.frozen 3
          have q4 := hG10.frozen 4
          have lt10 := z10.lt
          clear r9 fr9 lt9
          refine hK.out _ _ (fun h => absurd h (by decide)) ?_
          clear hK K
          try simp only [Act.put, List.getElem_toArray, List.getElem_cons_zero, List.getElem_cons_succ, List.setIfInBounds_toArray, List.set_cons_zero, List.set_cons_succ]
          refine late_one (i := 7) rfl (by kernel_rfl) (fun K hK => ?_)
          go_simp
          clear r0 r1 r2 r3 r4 q0 q1 q2 q3 q4 lt10 z10
          refine hK.out _ _ (fun h => absurd h (by decide)) ?_
          clear hK K
          try simp only [Act.put, List.getElem_toArray, List.getElem_cons_zero, List.getElem_cons_succ, List.setIfInBounds_toArray, List.set_cons_zero, List.set_cons_succ]
          refine late_done (by kernel_rfl) ?_ _
          go_wp2_with fail
          have hs9 := Hs9.out
          have hs10 := Hs10.out
          have hsW := HsW.out
          go_meet
          case rel => exact ⟨_, _, A', c', E1, e1, E2, e2, rfl, rfl, fin_copy hG9 hG10 rfl hrb hrv hB (by go_light; omega) (by go_light; omega) (by go_light; omega) (by go_light; omega) (by go_light; omega) (by go_light; omega) (by go_light; omega) (by go_light; omega)⟩
        · go_simp
          have hG9 := newBook hB
          have Hs9 := Lib.hid (newBook_size hB)
          (first | (replace hrb := (RSl.fair RType.fair).keep hrb (Keep.alloc _ _ (.cells #[.slice none 0 0] 24))) | skip)
          (first | (replace hrv := RVal.fair.keep hrv (Keep.alloc _ _ (.cells #[.slice none 0 0] 24))) | skip)
          (first | (replace hG10 := hG10.alloc (.cells #[.slice none 0 0] 24)) | skip)
          replace hB := hB.alloc hB.size (.cells #[.slice none 0 0] 24)
          clear hS
          have hS := HSK.out _ hB
          refine hK.out _ _ (fun _ => hS) ?_
          clear hK K
          try simp only [Act.put, List.getElem_toArray, List.getElem_cons_zero, List.getElem_cons_succ, List.setIfInBounds_toArray, List.set_cons_zero, List.set_cons_succ]
          generalize World.alloc _ (.cells #[.slice none 0 0] 24) = W9 at *
          refine late_one (i := 3) rfl (by kernel_rfl) (fun K hK => ?_)
          go_simp
          refine (HCV.out _ hB).mono ?_
          rintro e wv ⟨cs2, rfl, hrv0, hbv⟩
          obtain ⟨E1, e1, E2, e2, rfl, -, -⟩ := hrv0.parts
          have hrv := cut_new RVal.fair hrv0
          have hsv := hbv.size
          (first | (replace hrb := (RSl.fair RType.fair).below hrb hbv) | skip)
          (first | (replace hG9 := hG9.below hbv hG9.lt) | skip)
          (first | (replace hG10 := hG10.below hbv hG10.lt) | skip)
          replace hB := below_via hB hbv hB.size
          clear hS hrv0 hbv
          have hS := HSK.out _ hB
          refine hK.out _ _ (fun _ => hS) ?_
          clear hK K
          try simp only [Act.put, List.getElem_toArray, List.getElem_cons_zero, List.getElem_cons_succ, List.setIfInBounds_toArray, List.set_cons_zero, List.set_cons_succ]
          have r9 := hG9.cell 0
          have fr9 := hG9.frozen 0
          have lt9 := hG9.lt
          simp only [List.getElem?_cons_zero] at r9
          refine late_one (i := 6) rfl (by kernel_rfl) (fun K hK => ?_)
          go_simp
          have z10 := far_book hG9 hG10 (.slice A' b.length c')
          obtain ⟨r0, r1, r2, r3, r4⟩ := z10.five
          have q0 := hG10.frozen 0
          have q1 := hG10.frozen 1
          have q2 := hG10.frozen 2
          have q3 := hG10.frozen 3
          have q4 := hG10.frozen 4
          have lt10 := z10.lt
          clear r9 fr9 lt9
          refine hK.out _ _ (fun h => absurd h (by decide)) ?_
          clear hK K
          try simp only [Act.put, List.getElem_toArray, List.getElem_cons_zero, List.getElem_cons_succ, List.setIfInBounds_toArray, List.set_cons_zero, List.set_cons_succ]
          refine late_one (i := 7) rfl (by kernel_rfl) (fun K hK => ?_)
          go_simp
          clear r0 r1 r2 r3 r4 q0 q1 q2 q3 q4 lt10 z10
          refine hK.out _ _ (fun h => absurd h (by decide)) ?_
          clear hK K
          try simp only [Act.put, List.getElem_toArray, List.getElem_cons_zero, List.getElem_cons_succ, List.setIfInBounds_toArray, List.set_cons_zero, List.set_cons_succ]
          refine late_done (by kernel_rfl) ?_ _
          go_wp2_with fail
          have hs9 := Hs9.out
          have hs10 := Hs10.out
          have hsW := HsW.out
          go_meet
          case rel => exact ⟨_, _, A', c', E1, e1, E2, e2, rfl, rfl, fin_copy hG9 hG10 rfl hrb hrv hB (by go_light; omega) (by go_light; omega) (by go_light; omega) (by go_light; omega) (by go_light; omega) (by go_light; omega) (by go_light; omega) (by go_light; omega)⟩
    · go_simp
      have hG9 := newBook hB
      have Hs9 := Lib.hid (newBook_size hB)
      (first | (replace hrb := (RSl.fair RType.fair).keep hrb (Keep.alloc _ _ (.cells #[.slice none 0 0] 24))) | skip)
      (first | (replace hrv := RVal.fair.keep hrv (Keep.alloc _ _ (.cells #[.slice none 0 0] 24))) | skip)
      (first | (replace hG10 := hG10.alloc (.cells #[.slice none 0 0] 24)) | skip)
      replace hB := hB.alloc hB.size (.cells #[.slice none 0 0] 24)
      clear hS
      have hS := HSK.out _ hB
      refine hK.out _ _ (fun _ => hS) ?_
      clear hK K
      try simp only [Act.put, List.getElem_toArray, List.getElem_cons_zero, List.getElem_cons_succ, List.setIfInBounds_toArray, List.set_cons_zero, List.set_cons_succ]
      generalize World.alloc _ (.cells #[.slice none 0 0] 24) = W9 at *
      refine late_two (i := 1) (j := 5) rfl rfl (by kernel_rfl) (fun K hK => ?_) (fun K hK => ?_)
      · go_simp
        refine (HCB.out _ hB).mono ?_
        rintro e wb ⟨A', c', rfl, hrb0, hbb⟩
        have hrb := cut_new (RSl.fair RType.fair) hrb0
        have hsb := hbb.size
        (first | (replace hrv := RVal.fair.below hrv hbb) | skip)
        (first | (replace hG9 := hG9.below hbb hG9.lt) | skip)
        (first | (replace hG10 := hG10.below hbb hG10.lt) | skip)
        replace hB := below_via hB hbb hB.size
        clear hS hrb0 hbb
        have hS := HSK.out _ hB
        refine hK.out _ _ (fun _ => hS) ?_
        clear hK K
        try simp only [Act.put, List.getElem_toArray, List.getElem_cons_zero, List.getElem_cons_succ, List.setIfInBounds_toArray, List.set_cons_zero, List.set_cons_succ]
        refine late_two (i := 3) (j := 5) rfl rfl (by kernel_rfl) (fun K hK => ?_) (fun K hK => ?_)
        · go_simp
          refine (HCV.out _ hB).mono ?_
          rintro e wv ⟨cs2, rfl, hrv0, hbv⟩
          obtain ⟨E1, e1, E2, e2, rfl, -, -⟩ := hrv0.parts
          have hrv := cut_new RVal.fair hrv0
          have hsv := hbv.size
          (first | (replace hrb := (RSl.fair RType.fair).below hrb hbv) | skip)
          (first | (replace hG9 := hG9.below hbv hG9.lt) | skip)
          (first | (replace hG10 := hG10.below hbv hG10.lt) | skip)
          replace hB := below_via hB hbv hB.size
          clear hS hrv0 hbv
          have hS := HSK.out _ hB
          refine hK.out _ _ (fun _ => hS) ?_
          clear hK K
          try simp only [Act.put, List.getElem_toArray, List.getElem_cons_zero, List.getElem_cons_succ, List.setIfInBounds_toArray, List.set_cons_zero, List.set_cons_succ]
          refine late_one (i := 5) rfl (by kernel_rfl) (fun K hK => ?_)
          go_simp
          have hG10 := newVal hB
          have Hs10 := Lib.hid (newVal_size hB)
          (first | (replace hrb := (RSl.fair RType.fair).keep hrb (Keep.alloc _ _ (.cells #[.int .i64 0, .int .i64 0, .string ⟨#[]⟩, .slice none 0 0, .slice none 0 0] 28))) | skip)
          (first | (replace hrv := RVal.fair.keep hrv (Keep.alloc _ _ (.cells #[.int .i64 0, .int .i64 0, .string ⟨#[]⟩, .slice none 0 0, .slice none 0 0] 28))) | skip)
          (first | (replace hG9 := hG9.alloc (.cells #[.int .i64 0, .int .i64 0, .string ⟨#[]⟩, .slice none 0 0, .slice none 0 0] 28)) | skip)
          replace hB := hB.alloc hB.size (.cells #[.int .i64 0, .int .i64 0, .string ⟨#[]⟩, .slice none 0 0, .slice none 0 0] 28)
          clear hS
          have hS := HSK.out _ hB
          refine hK.out _ _ (fun _ => hS) ?_
          clear hK K
          try simp only [Act.put, List.getElem_toArray, List.getElem_cons_zero, List.getElem_cons_succ, List.setIfInBounds_toArray, List.set_cons_zero, List.set_cons_succ]
          generalize World.alloc _ (.cells #[.int .i64 0, .int .i64 0, .string ⟨#[]⟩, .slice none 0 0, .slice none 0 0] 28) = W10 at *
          have r9 := hG9.cell 0
          have fr9 := hG9.frozen 0
          have lt9 := hG9.lt
          simp only [List.getElem?_cons_zero] at r9
          refine late_one (i := 6) rfl (by kernel_rfl) (fun K hK => ?_)
          go_simp
          have z10 := far_book hG9 hG10 (.slice A' b.length c')
          obtain ⟨r0, r1, r2, r3, r4⟩ := z10.five
          have q0 := hG10.frozen 0
          have q1 := hG10.frozen 1
          have q2 := hG10.frozen 2
          have q3 := hG10.frozen 3
          have q4 := hG10.frozen 4
          have lt10 := z10.lt
          clear r9 fr9 lt9
          refine hK.out _ _ (fun h => absurd h (by decide)) ?_
          clear hK K
          try simp only [Act.put, List.getElem_toArray, List.getElem_cons_zero, List.getElem_cons_succ, List.setIfInBounds_toArray, List.set_cons_zero, List.set_cons_succ]
          refine late_one (i := 7) rfl (by kernel_rfl) (fun K hK => ?_)
          go_simp
          clear r0 r1 r2 r3 r4 q0 q1 q2 q3 q4 lt10 z10
          refine hK.out _ _ (fun h => absurd h (by decide)) ?_
          clear hK K
          try simp only [Act.put, List.getElem_toArray, List.getElem_cons_zero, List.getElem_cons_succ, List.setIfInBounds_toArray, List.set_cons_zero, List.set_cons_succ]
          refine late_done (by kernel_rfl) ?_ _
          go_wp2_with fail
          have hs9 := Hs9.out
          have hs10 := Hs10.out
          have hsW := HsW.out
          go_meet
          case rel => exact ⟨_, _, A', c', E1, e1, E2, e2, rfl, rfl, fin_copy hG9 hG10 rfl hrb hrv hB (by go_light; omega) (by go_light; omega) (by go_light; omega) (by go_light; omega) (by go_light; omega) (by go_light; omega) (by go_light; omega) (by go_light; omega)⟩
        · go_simp
          have hG10 := newVal hB
          have Hs10 := Lib.hid (newVal_size hB)
          (first | (replace hrb := (RSl.fair RType.fair).keep hrb (Keep.alloc _ _ (.cells #[.int .i64 0, .int .i64 0, .string ⟨#[]⟩, .slice none 0 0, .slice none 0 0] 28))) | skip)
          (first | (replace hrv := RVal.fair.keep hrv (Keep.alloc _ _ (.cells #[.int .i64 0, .int .i64 0, .string ⟨#[]⟩, .slice none 0 0, .slice none 0 0] 28))) | skip)
          (first | (replace hG9 := hG9.alloc (.cells #[.int .i64 0, .int .i64 0, .string ⟨#[]⟩, .slice none 0 0, .slice none 0 0] 28)) | skip)
          replace hB := hB.alloc hB.size (.cells #[.int .i64 0, .int .i64 0, .string ⟨#[]⟩, .slice none 0 0, .slice none 0 0] 28)
          clear hS
          have hS := HSK.out _ hB
          refine hK.out _ _ (fun _ => hS) ?_
          clear hK K
          try simp only [Act.put, List.getElem_toArray, List.getElem_cons_zero, List.getElem_cons_succ, List.setIfInBounds_toArray, List.set_cons_zero, List.set_cons_succ]
          generalize World.alloc _ (.cells #[.int .i64 0, .int .i64 0, .string ⟨#[]⟩, .slice none 0 0, .slice none 0 0] 28) = W10 at *
          refine late_one (i := 3) rfl (by kernel_rfl) (fun K hK => ?_)
          go_simp
          refine (HCV.out _ hB).mono ?_
          rintro e wv ⟨cs2, rfl, hrv0, hbv⟩
          obtain ⟨E1, e1, E2, e2, rfl, -, -⟩ := hrv0.parts
          have hrv := cut_new RVal.fair hrv0
          have hsv := hbv.size
          (first | (replace hrb := (RSl.fair RType.fair).below hrb hbv) | skip)
          (first | (replace hG9 := hG9.below hbv hG9.lt) | skip)
          (first | (replace hG10 := hG10.below hbv hG10.lt) | skip)
          replace hB := below_via hB hbv hB.size
          clear hS hrv0 hbv
          have hS := HSK.out _ hB
          refine hK.out _ _ (fun _ => hS) ?_
          clear hK K
          try simp only [Act.put, List.getElem_toArray, List.getElem_cons_zero, List.getElem_cons_succ, List.setIfInBounds_toArray, List.set_cons_zero, List.set_cons_succ]
          have r9 := hG9.cell 0
          have fr9 := hG9.frozen 0
          have lt9 := hG9.lt
          simp only [List.getElem?_cons_zero] at r9
          refine late_one (i := 6) rfl (by kernel_rfl) (fun K hK => ?_)
          go_simp
          have z10 := far_book hG9 hG10 (.slice A' b.length c')
          obtain ⟨r0, r1, r2, r3, r4⟩ := z10.five
          have q0 := hG10.frozen 0
          have q1 := hG10.frozen 1
          have q2 := hG10.frozen 2
          have q3 := hG10.frozen 3
          have q4 := hG10.frozen 4
          have lt10 := z10.lt
          clear r9 fr9 lt9
          refine hK.out _ _ (fun h => absurd h (by decide)) ?_
          clear hK K
          try simp only [Act.put, List.getElem_toArray, List.getElem_cons_zero, List.getElem_cons_succ, List.setIfInBounds_toArray, List.set_cons_zero, List.set_cons_succ]
          refine late_one (i := 7) rfl (by kernel_rfl) (fun K hK => ?_)
          go_simp
          clear r0 r1 r2 r3 r4 q0 q1 q2 q3 q4 lt10 z10
          refine hK.out _ _ (fun h => absurd h (by decide)) ?_
          clear hK K
          try simp only [Act.put, List.getElem_toArray, List.getElem_cons_zero, List.getElem_cons_succ, List.setIfInBounds_toArray, List.set_cons_zero, List.set_cons_succ]
          refine late_done (by kernel_rfl) ?_ _
          go_wp2_with fail
          have hs9 := Hs9.out
          have hs10 := Hs10.out
          have hsW := HsW.out
          go_meet
          case rel => exact ⟨_, _, A', c', E1, e1, E2, e2, rfl, rfl, fin_copy hG9 hG10 rfl hrb hrv hB (by go_light; omega) (by go_light; omega) (by go_light; omega) (by go_light; omega) (by go_light; omega) (by go_light; omega) (by go_light; omega) (by go_light; omega)⟩
      · go_simp
        have hG10 := newVal hB
        have Hs10 := Lib.hid (newVal_size hB)
        (first | (replace hrb := (RSl.fair RType.fair).keep hrb (Keep.alloc _ _ (.cells #[.int .i64 0, .int .i64 0, .string ⟨#[]⟩, .slice none 0 0, .slice none 0 0] 28))) | skip)
        (first | (replace hrv := RVal.fair.keep hrv (Keep.alloc _ _ (.cells #[.int .i64 0, .int .i64 0, .string ⟨#[]⟩, .slice none 0 0, .slice none 0 0] 28))) | skip)
        (first | (replace hG9 := hG9.alloc (.cells #[.int .i64 0, .int .i64 0, .string ⟨#[]⟩, .slice none 0 0, .slice none 0 0] 28)) | skip)
        replace hB := hB.alloc hB.size (.cells #[.int .i64 0, .int .i64 0, .string ⟨#[]⟩, .slice none 0 0, .slice none 0 0] 28)
        clear hS
        have hS := HSK.out _ hB
        refine hK.out _ _ (fun _ => hS) ?_
        clear hK K
        try simp only [Act.put, List.getElem_toArray, List.getElem_cons_zero, List.getElem_cons_succ, List.setIfInBounds_toArray, List.set_cons_zero, List.set_cons_succ]
        generalize World.alloc _ (.cells #[.int .i64 0, .int .i64 0, .string ⟨#[]⟩, .slice none 0 0, .slice none 0 0] 28) = W10 at *
        refine late_one (i := 1) rfl (by kernel_rfl) (fun K hK => ?_)
        go_simp
        refine (HCB.out _ hB).mono ?_
        rintro e wb ⟨A', c', rfl, hrb0, hbb⟩
        have hrb := cut_new (RSl.fair RType.fair) hrb0
        have hsb := hbb.size
        (first | (replace hrv := RVal.fair.below hrv hbb) | skip)
        (first | (replace hG9 := hG9.below hbb hG9.lt) | skip)
        (first | (replace hG10 := hG10.below hbb hG10.lt) | skip)
        replace hB := below_via hB hbb hB.size
        clear hS hrb0 hbb
        have hS := HSK.out _ hB
        refine hK.out _ _ (fun _ => hS) ?_
        clear hK K
        try simp only [Act.put, List.getElem_toArray, List.getElem_cons_zero, List.getElem_cons_succ, List.setIfInBounds_toArray, List.set_cons_zero, List.set_cons_succ]
        refine late_one (i := 3) rfl (by kernel_rfl) (fun K hK => ?_)
        go_simp
        refine (HCV.out _ hB).mono ?_
        rintro e wv ⟨cs2, rfl, hrv0, hbv⟩
        obtain ⟨E1, e1, E2, e2, rfl, -, -⟩ := hrv0.parts
        have hrv := cut_new RVal.fair hrv0
        have hsv := hbv.size
        (first | (replace hrb := (RSl.fair RType.fair).below hrb hbv) | skip)
        (first | (replace hG9 := hG9.below hbv hG9.lt) | skip)
        (first | (replace hG10 := hG10.below hbv hG10.lt) | skip)
        replace hB := below_via hB hbv hB.size
        clear hS hrv0 hbv
        have hS := HSK.out _ hB
        refine hK.out _ _ (fun _ => hS) ?_
        clear hK K
        try simp only [Act.put, List.getElem_toArray, List.getElem_cons_zero, List.getElem_cons_succ, List.setIfInBounds_toArray, List.set_cons_zero, List.set_cons_succ]
        have r9 := hG9.cell 0
        have fr9 := hG9.frozen 0
        have lt9 := hG9.lt
        simp only [List.getElem?_cons_zero] at r9
        refine late_one (i := 6) rfl (by kernel_rfl) (fun K hK => ?_)
        go_simp
        have z10 := far_book hG9 hG10 (.slice A' b.length c')
        obtain ⟨r0, r1, r2, r3, r4⟩ := z10.five
        have q0 := hG10.frozen 0
        have q1 := hG10.frozen 1
        have q2 := hG10.frozen 2
        have q3 := hG10.frozen 3
        have q4 := hG10.frozen 4
        have lt10 := z10.lt
        clear r9 fr9 lt9
        refine hK.out _ _ (fun h => absurd h (by decide)) ?_
        clear hK K
        try simp only [Act.put, List.getElem_toArray, List.getElem_cons_zero, List.getElem_cons_succ, List.setIfInBounds_toArray, List.set_cons_zero, List.set_cons_succ]
        refine late_one (i := 7) rfl (by kernel_rfl) (fun K hK => ?_)
        go_simp
        clear r0 r1 r2 r3 r4 q0 q1 q2 q3 q4 lt10 z10
        refine hK.out _ _ (fun h => absurd h (by decide)) ?_
        clear hK K
        try simp only [Act.put, List.getElem_toArray, List.getElem_cons_zero, List.getElem_cons_succ, List.setIfInBounds_toArray, List.set_cons_zero, List.set_cons_succ]
        refine late_done (by kernel_rfl) ?_ _
        go_wp2_with fail
        have hs9 := Hs9.out
        have hs10 := Hs10.out
        have hsW := HsW.out
        go_meet
        case rel => exact ⟨_, _, A', c', E1, e1, E2, e2, rfl, rfl, fin_copy hG9 hG10 rfl hrb hrv hB (by go_light; omega) (by go_light; omega) (by go_light; omega) (by go_light; omega) (by go_light; omega) (by go_light; omega) (by go_light; omega) (by go_light; omega)⟩
    · go_simp
      have hG10 := newVal hB
      have Hs10 := Lib.hid (newVal_size hB)
      (first | (replace hrb := (RSl.fair RType.fair).keep hrb (Keep.alloc _ _ (.cells #[.int .i64 0, .int .i64 0, .string ⟨#[]⟩, .slice none 0 0, .slice none 0 0] 28))) | skip)
      (first | (replace hrv := RVal.fair.keep hrv (Keep.alloc _ _ (.cells #[.int .i64 0, .int .i64 0, .string ⟨#[]⟩, .slice none 0 0, .slice none 0 0] 28))) | skip)
      (first | (replace hG9 := hG9.alloc (.cells #[.int .i64 0, .int .i64 0, .string ⟨#[]⟩, .slice none 0 0, .slice none 0 0] 28)) | skip)
      replace hB := hB.alloc hB.size (.cells #[.int .i64 0, .int .i64 0, .string ⟨#[]⟩, .slice none 0 0, .slice none 0 0] 28)
      clear hS
      have hS := HSK.out _ hB
      refine hK.out _ _ (fun _ => hS) ?_
      clear hK K
      try simp only [Act.put, List.getElem_toArray, List.getElem_cons_zero, List.getElem_cons_succ, List.setIfInBounds_toArray, List.set_cons_zero, List.set_cons_succ]
      generalize World.alloc _ (.cells #[.int .i64 0, .int .i64 0, .string ⟨#[]⟩, .slice none 0 0, .slice none 0 0] 28) = W10 at *
      refine late_two (i := 1) (j := 4) rfl rfl (by kernel_rfl) (fun K hK => ?_) (fun K hK => ?_)
      · go_simp
        refine (HCB.out _ hB).mono ?_
        rintro e wb ⟨A', c', rfl, hrb0, hbb⟩
        have hrb := cut_new (RSl.fair RType.fair) hrb0
        have hsb := hbb.size
        (first | (replace hrv := RVal.fair.below hrv hbb) | skip)
        (first | (replace hG9 := hG9.below hbb hG9.lt) | skip)
        (first | (replace hG10 := hG10.below hbb hG10.lt) | skip)
        replace hB := below_via hB hbb hB.size
        clear hS hrb0 hbb
        have hS := HSK.out _ hB
        refine hK.out _ _ (fun _ => hS) ?_
        clear hK K
        try simp only [Act.put, List.getElem_toArray, List.getElem_cons_zero, List.getElem_cons_succ, List.setIfInBounds_toArray, List.set_cons_zero, List.set_cons_succ]
        refine late_two (i := 3) (j := 4) rfl rfl (by kernel_rfl) (fun K hK => ?_) (fun K hK => ?_)
        · go_simp
          refine (HCV.out _ hB).mono ?_
          rintro e wv ⟨cs2, rfl, hrv0, hbv⟩
          obtain ⟨E1, e1, E2, e2, rfl, -, -⟩ := hrv0.parts
          have hrv := cut_new RVal.fair hrv0
          have hsv := hbv.size
          (first | (replace hrb := (RSl.fair RType.fair).below hrb hbv) | skip)
          (first | (replace hG9 := hG9.below hbv hG9.lt) | skip)
          (first | (replace hG10 := hG10.below hbv hG10.lt) | skip)
          replace hB := below_via hB hbv hB.size
          clear hS hrv0 hbv
          have hS := HSK.out _ hB
          refine hK.out _ _ (fun _ => hS) ?_
          clear hK K
          try simp only [Act.put, List.getElem_toArray, List.getElem_cons_zero, List.getElem_cons_succ, List.setIfInBounds_toArray, List.set_cons_zero, List.set_cons_succ]
          refine late_one (i := 4) rfl (by kernel_rfl) (fun K hK => ?_)
          go_simp
          have hG9 := newBook hB
          have Hs9 := Lib.hid (newBook_size hB)
          (first | (replace hrb := (RSl.fair RType.fair).keep hrb (Keep.alloc _ _ (.cells #[.slice none 0 0] 24))) | skip)
          (first | (replace hrv := RVal.fair.keep hrv (Keep.alloc _ _ (.cells #[.slice none 0 0] 24))) | skip)
          (first | (replace hG10 := hG10.alloc (.cells #[.slice none 0 0] 24)) | skip)
          replace hB := hB.alloc hB.size (.cells #[.slice none 0 0] 24)
          clear hS
          have hS := HSK.out _ hB
          refine hK.out _ _ (fun _ => hS) ?_
          clear hK K
          try simp only [Act.put, List.getElem_toArray, List.getElem_cons_zero, List.getElem_cons_succ, List.setIfInBounds_toArray, List.set_cons_zero, List.set_cons_succ]
          generalize World.alloc _ (.cells #[.slice none 0 0] 24) = W9 at *
          have r9 := hG9.cell 0
          have fr9 := hG9.frozen 0
          have lt9 := hG9.lt
          simp only [List.getElem?_cons_zero] at r9
          refine late_one (i := 6) rfl (by kernel_rfl) (fun K hK => ?_)
          go_simp
          have z10 := far_book hG9 hG10 (.slice A' b.length c')
          obtain ⟨r0, r1, r2, r3, r4⟩ := z10.five
          have q0 := hG10.frozen 0
          have q1 := hG10.frozen 1
          have q2 := hG10.frozen 2
          have q3 := hG10.frozen 3
          have q4 := hG10.frozen 4
          have lt10 := z10.lt
          clear r9 fr9 lt9
          refine hK.out _ _ (fun h => absurd h (by decide)) ?_
          clear hK K
          try simp only [Act.put, List.getElem_toArray, List.getElem_cons_zero, List.getElem_cons_succ, List.setIfInBounds_toArray, List.set_cons_zero, List.set_cons_succ]
          refine late_one (i := 7) rfl (by kernel_rfl) (fun K hK => ?_)
          go_simp
          clear r0 r1 r2 r3 r4 q0 q1 q2 q3 q4 lt10 z10
          refine hK.out _ _ (fun h => absurd h (by decide)) ?_
          clear hK K
          try simp only [Act.put, List.getElem_toArray, List.getElem_cons_zero, List.getElem_cons_succ, List.setIfInBounds_toArray, List.set_cons_zero, List.set_cons_succ]
          refine late_done (by kernel_rfl) ?_ _
          go_wp2_with fail
          have hs9 := Hs9.out
          have hs10 := Hs10.out
          have hsW := HsW.out
          go_meet
          case rel => exact ⟨_, _, A', c', E1, e1, E2, e2, rfl, rfl, fin_copy hG9 hG10 rfl hrb hrv hB (by go_light; omega) (by go_light; omega) (by go_light; omega) (by go_light; omega) (by go_light; omega) (by go_light; omega) (by go_light; omega) (by go_light; omega)⟩
        · go_simp
          have hG9 := newBook hB
          have Hs9 := Lib.hid (newBook_size hB)
          (first | (replace hrb := (RSl.fair RType.fair).keep hrb (Keep.alloc _ _ (.cells #[.slice none 0 0] 24))) | skip)
          (first | (replace hrv := RVal.fair.keep hrv (Keep.alloc _ _ (.cells #[.slice none 0 0] 24))) | skip)
          (first | (replace hG10 := hG10.alloc (.cells #[.slice none 0 0] 24)) | skip)
          replace hB := hB.alloc hB.size (.cells #[.slice none 0 0] 24)
          clear hS
          have hS := HSK.out _ hB
          refine hK.out _ _ (fun _ => hS) ?_
          clear hK K
          try simp only [Act.put, List.getElem_toArray, List.getElem_cons_zero, List.getElem_cons_succ, List.setIfInBounds_toArray, List.set_cons_zero, List.set_cons_succ]
          generalize World.alloc _ (.cells #[.slice none 0 0] 24) = W9 at *
          refine late_one (i := 3) rfl (by kernel_rfl) (fun K hK => ?_)
          go_simp
          refine (HCV.out _ hB).mono ?_
          rintro e wv ⟨cs2, rfl, hrv0, hbv⟩
          obtain ⟨E1, e1, E2, e2, rfl, -, -⟩ := hrv0.parts
          have hrv := cut_new RVal.fair hrv0
          have hsv := hbv.size
          (first | (replace hrb := (RSl.fair RType.fair).below hrb hbv) | skip)
          (first | (replace hG9 := hG9.below hbv hG9.lt) | skip)
          (first | (replace hG10 := hG10.below hbv hG10.lt) | skip)
          replace hB := below_via hB hbv hB.size
          clear hS hrv0 hbv
          have hS := HSK.out _ hB
          refine hK.out _ _ (fun _ => hS) ?_
          clear hK K
          try simp only [Act.put, List.getElem_toArray, List.getElem_cons_zero, List.getElem_cons_succ, List.setIfInBounds_toArray, List.set_cons_zero, List.set_cons_succ]
          have r9 := hG9.cell 0
          have fr9 := hG9.frozen 0
          have lt9 := hG9.lt
          simp only [List.getElem?_cons_zero] at r9
          refine late_one (i := 6) rfl (by kernel_rfl) (fun K hK => ?_)
          go_simp
          have z10 := far_book hG9 hG10 (.slice A' b.length c')
          obtain ⟨r0, r1, r2, r3, r4⟩ := z10.five
          have q0 := hG10.frozen 0
          have q1 := hG10.frozen 1
          have q2 := hG10.frozen 2
          have q3 := hG10.frozen 3
          have q4 := hG10.frozen 4
          have lt10 := z10.lt
          clear r9 fr9 lt9
          refine hK.out _ _ (fun h => absurd h (by decide)) ?_
          clear hK K
          try simp only [Act.put, List.getElem_toArray, List.getElem_cons_zero, List.getElem_cons_succ, List.setIfInBounds_toArray, List.set_cons_zero, List.set_cons_succ]
          refine late_one (i := 7) rfl (by kernel_rfl) (fun K hK => ?_)
          go_simp
          clear r0 r1 r2 r3 r4 q0 q1 q2 q3 q4 lt10 z10
          refine hK.out _ _ (fun h => absurd h (by decide)) ?_
          clear hK K
          try simp only [Act.put, List.getElem_toArray, List.getElem_cons_zero, List.getElem_cons_succ, List.setIfInBounds_toArray, List.set_cons_zero, List.set_cons_succ]
          refine late_done (by kernel_rfl) ?_ _
          go_wp2_with fail
          have hs9 := Hs9.out
          have hs10 := Hs10.out
          have hsW := HsW.out
          go_meet
          case rel => exact ⟨_, _, A', c', E1, e1, E2, e2, rfl, rfl, fin_copy hG9 hG10 rfl hrb hrv hB (by go_light; omega) (by go_light; omega) (by go_light; omega) (by go_light; omega) (by go_light; omega) (by go_light; omega) (by go_light; omega) (by go_light; omega)⟩
      · go_simp
        have hG9 := newBook hB
        have Hs9 := Lib.hid (newBook_size hB)
        (first | (replace hrb := (RSl.fair RType.fair).keep hrb (Keep.alloc _ _ (.cells #[.slice none 0 0] 24))) | skip)
        (first | (replace hrv := RVal.fair.keep hrv (Keep.alloc _ _ (.cells #[.slice none 0 0] 24))) | skip)
        (first | (replace hG10 := hG10.alloc (.cells #[.slice none 0 0] 24)) | skip)
        replace hB := hB.alloc hB.size (.cells #[.slice none 0 0] 24)
        clear hS
        have hS := HSK.out _ hB
        refine hK.out _ _ (fun _ => hS) ?_
        clear hK K
        try simp only [Act.put, List.getElem_toArray, List.getElem_cons_zero, List.getElem_cons_succ, List.setIfInBounds_toArray, List.set_cons_zero, List.set_cons_succ]
        generalize World.alloc _ (.cells #[.slice none 0 0] 24) = W9 at *
        refine late_one (i := 1) rfl (by kernel_rfl) (fun K hK => ?_)
        go_simp
        refine (HCB.out _ hB).mono ?_
        rintro e wb ⟨A', c', rfl, hrb0, hbb⟩
        have hrb := cut_new (RSl.fair RType.fair) hrb0
        have hsb := hbb.size
        (first | (replace hrv := RVal.fair.below hrv hbb) | skip)
        (first | (replace hG9 := hG9.below hbb hG9.lt) | skip)
        (first | (replace hG10 := hG10.below hbb hG10.lt) | skip)
        replace hB := below_via hB hbb hB.size
        clear hS hrb0 hbb
        have hS := HSK.out _ hB
        refine hK.out _ _ (fun _ => hS) ?_
        clear hK K
        try simp only [Act.put, List.getElem_toArray, List.getElem_cons_zero, List.getElem_cons_succ, List.setIfInBounds_toArray, List.set_cons_zero, List.set_cons_succ]
        refine late_one (i := 3) rfl (by kernel_rfl) (fun K hK => ?_)
        go_simp
        refine (HCV.out _ hB).mono ?_
        rintro e wv ⟨cs2, rfl, hrv0, hbv⟩
        obtain ⟨E1, e1, E2, e2, rfl, -, -⟩ := hrv0.parts
        have hrv := cut_new RVal.fair hrv0
        have hsv := hbv.size
        (first | (replace hrb := (RSl.fair RType.fair).below hrb hbv) | skip)
        (first | (replace hG9 := hG9.below hbv hG9.lt) | skip)
        (first | (replace hG10 := hG10.below hbv hG10.lt) | skip)
        replace hB := below_via hB hbv hB.size
        clear hS hrv0 hbv
        have hS := HSK.out _ hB
        refine hK.out _ _ (fun _ => hS) ?_
        clear hK K
        try simp only [Act.put, List.getElem_toArray, List.getElem_cons_zero, List.getElem_cons_succ, List.setIfInBounds_toArray, List.set_cons_zero, List.set_cons_succ]
        have r9 := hG9.cell 0
        have fr9 := hG9.frozen 0
        have lt9 := hG9.lt
        simp only [List.getElem?_cons_zero] at r9
        refine late_one (i := 6) rfl (by kernel_rfl) (fun K hK => ?_)
        go_simp
        have z10 := far_book hG9 hG10 (.slice A' b.length c')
        obtain ⟨r0, r1, r2, r3, r4⟩ := z10.five
        have q0 := hG10.frozen 0
        have q1 := hG10.frozen 1
        have q2 := hG10.frozen 2
        have q3 := hG10.frozen 3
        have q4 := hG10.frozen 4
        have lt10 := z10.lt
        clear r9 fr9 lt9
        refine hK.out _ _ (fun h => absurd h (by decide)) ?_
        clear hK K
        try simp only [Act.put, List.getElem_toArray, List.getElem_cons_zero, List.getElem_cons_succ, List.setIfInBounds_toArray, List.set_cons_zero, List.set_cons_succ]
        refine late_one (i := 7) rfl (by kernel_rfl) (fun K hK => ?_)
        go_simp
        clear r0 r1 r2 r3 r4 q0 q1 q2 q3 q4 lt10 z10
        refine hK.out _ _ (fun h => absurd h (by decide)) ?_
        clear hK K
        try simp only [Act.put, List.getElem_toArray, List.getElem_cons_zero, List.getElem_cons_succ, List.setIfInBounds_toArray, List.set_cons_zero, List.set_cons_succ]
        refine late_done (by kernel_rfl) ?_ _
        go_wp2_with fail
        have hs9 := Hs9.out
        have hs10 := Hs10.out
        have hsW := HsW.out
        go_meet
        case rel => exact ⟨_, _, A', c', E1, e1, E2, e2, rfl, rfl, fin_copy hG9 hG10 rfl hrb hrv hB (by go_light; omega) (by go_light; omega) (by go_light; omega) (by go_light; omega) (by go_light; omega) (by go_light; omega) (by go_light; omega) (by go_light; omega)⟩
    --TREE]
  case rest =>
    obtain ⟨g9, g10, A', c', E1, e1, E2, e2, rfl, rfl, hG9, hG10, hrb, hrv, hB⟩ := hcut
    --[REST
    clear HSK HCB HCV
    obtain ⟨W1, hW1⟩ : ∃ V, V = wc := ⟨_, rfl⟩
    subst hW1
    have h1 : ∀ W', RowKit.Below W1.heap.size W1 W' → (Box W' w.heap.size 24 [.slice A b.length cap] ∧ Box W' (w.heap.size + 1) 28 [.int .i64 vk, .int .i64 vn, .string vs, .slice D1 vids.length f1, .slice D2 vls.length f2] ∧ Box W' g9 24 [.slice A' b.length c'] ∧ Box W' g10 28 [.int .i64 vk, .int .i64 vn, .string vs, .slice E1 vids.length e1, .slice E2 vls.length e2] ∧ RSl 5 96 RType (fun y => W0.heap.size ≤ y) W' [.slice A' b.length c'] b ∧ RVal (fun y => W0.heap.size ≤ y) W' [.int .i64 vk, .int .i64 vn, .string vs, .slice E1 vids.length e1, .slice E2 vls.length e2] (.mk vk vn vs vids vls) ∧ RowKit.Below w.heap.size w W') := fun W' h =>
      ⟨(x1.below hB x1.lt).below h (x1.below hB x1.lt).lt, (x2.below hB x2.lt).below h (x2.below hB x2.lt).lt, hG9.below h hG9.lt, hG10.below h hG10.lt, (RSl.fair RType.fair).below hrb h, RVal.fair.below hrv h, HUP.out W' (below_via hB h hB.size)⟩
    have H1 := Lib.hid h1
    clear h1 hG9 hG10 hrb hrv hB x1 x2 x3 HUP
    have G1 := H1.out W1 (Below.refl _ _)
    have c0 : W1.cell? ⟨g9, 0, none⟩ = some (.slice A' b.length c') := G1.2.2.1.cell 0
    have hl0 := G1.2.2.1.lt
    go_wp2_with fail
    refine (HLa.out _ _ _ _ G1.2.2.2.2.1 (HW.out.below G1.2.2.2.2.2.2)).mono ?_
    rintro e w2 ⟨cs1, rfl, hx, hb⟩
    obtain ⟨P1, p1, Q1, q1, rfl, -, -⟩ := hx.parts
    have hbx := hb.alloc hb.size (.cells #[.int .i64 xk, .int .i64 xn, .string xs, .slice P1 xi.length p1, .slice Q1 xl.length q1] 28)
    have h2 : ∀ W', RowKit.Below (w2.alloc (.cells #[.int .i64 xk, .int .i64 xn, .string xs, .slice P1 xi.length p1, .slice Q1 xl.length q1] 28)).heap.size (w2.alloc (.cells #[.int .i64 xk, .int .i64 xn, .string xs, .slice P1 xi.length p1, .slice Q1 xl.length q1] 28)) W' → (Box W' w.heap.size 24 [.slice A b.length cap] ∧ Box W' (w.heap.size + 1) 28 [.int .i64 vk, .int .i64 vn, .string vs, .slice D1 vids.length f1, .slice D2 vls.length f2] ∧ Box W' g9 24 [.slice A' b.length c'] ∧ Box W' g10 28 [.int .i64 vk, .int .i64 vn, .string vs, .slice E1 vids.length e1, .slice E2 vls.length e2] ∧ RSl 5 96 RType (fun y => W0.heap.size ≤ y) W' [.slice A' b.length c'] b ∧ RVal (fun y => W0.heap.size ≤ y) W' [.int .i64 vk, .int .i64 vn, .string vs, .slice E1 vids.length e1, .slice E2 vls.length e2] (.mk vk vn vs vids vls) ∧ RowKit.Below w.heap.size w W') ∧ Box W' w2.heap.size 28 [.int .i64 xk, .int .i64 xn, .string xs, .slice P1 xi.length p1, .slice Q1 xl.length q1] ∧ RVal (New W1) W' [.int .i64 xk, .int .i64 xn, .string xs, .slice P1 xi.length p1, .slice Q1 xl.length q1] (ValueD.mk xk xn xs xi xl) := fun W' h => ⟨H1.out W' (below_via hbx h hbx.size), (Box.new w2 28 [.int .i64 xk, .int .i64 xn, .string xs, .slice P1 xi.length p1, .slice Q1 xl.length q1]).below h (Box.new w2 28 [.int .i64 xk, .int .i64 xn, .string xs, .slice P1 xi.length p1, .slice Q1 xl.length q1]).lt, RVal.fair.below (RVal.fair.keep hx (Keep.alloc _ w2 (.cells #[.int .i64 xk, .int .i64 xn, .string xs, .slice P1 xi.length p1, .slice Q1 xl.length q1] 28))) h⟩
    have H2 := Lib.hid h2
    have G := H1.out w2 hb
    have c0 : w2.cell? ⟨w.heap.size, 0, none⟩ = some (.slice A b.length cap) := G.1.cell 0
    have hl0 := G.1.lt
    clear hx hb hbx h2 G G1
    go_wp2_with fail
    generalize hWq : w2.alloc (.cells #[.int .i64 xk, .int .i64 xn, .string xs, .slice P1 xi.length p1, .slice Q1 xl.length q1] 28) = W2 at *
    generalize hXq : w2.heap.size = X1 at *
    clear hWq hXq c0 hl0 w2
    replace H2 : Hid (∀ W', RowKit.Below W2.heap.size W2 W' → ((Box W' w.heap.size 24 [.slice A b.length cap] ∧ Box W' (w.heap.size + 1) 28 [.int .i64 vk, .int .i64 vn, .string vs, .slice D1 vids.length f1, .slice D2 vls.length f2] ∧ Box W' g9 24 [.slice A' b.length c'] ∧ Box W' g10 28 [.int .i64 vk, .int .i64 vn, .string vs, .slice E1 vids.length e1, .slice E2 vls.length e2] ∧ RSl 5 96 RType (fun y => W0.heap.size ≤ y) W' [.slice A' b.length c'] b ∧ RVal (fun y => W0.heap.size ≤ y) W' [.int .i64 vk, .int .i64 vn, .string vs, .slice E1 vids.length e1, .slice E2 vls.length e2] (.mk vk vn vs vids vls) ∧ RowKit.Below w.heap.size w W') ∧ Box W' X1 28 [.int .i64 xk, .int .i64 xn, .string xs, .slice P1 xi.length p1, .slice Q1 xl.length q1] ∧ RVal (New W1) W' [.int .i64 xk, .int .i64 xn, .string xs, .slice P1 xi.length p1, .slice Q1 xl.length q1] (ValueD.mk xk xn xs xi xl))) := H2
    have G2 := H2.out W2 (Below.refl _ _)
    refine (HLb.out _ ((RSl.fair RType.fair).below HB.out G2.1.2.2.2.2.2.2) (HM.out.below G2.1.2.2.2.2.2.2)).mono ?_
    rintro e w3 ⟨cs2, rfl, hx, hb⟩
    obtain ⟨P2, p2, Q2, q2, rfl, -, -⟩ := hx.parts
    have hbx := hb.alloc hb.size (.cells #[.int .i64 xk, .int .i64 xn, .string xs, .slice P2 xi.length p2, .slice Q2 xl.length q2] 28)
    have h3 : ∀ W', RowKit.Below (w3.alloc (.cells #[.int .i64 xk, .int .i64 xn, .string xs, .slice P2 xi.length p2, .slice Q2 xl.length q2] 28)).heap.size (w3.alloc (.cells #[.int .i64 xk, .int .i64 xn, .string xs, .slice P2 xi.length p2, .slice Q2 xl.length q2] 28)) W' → ((Box W' w.heap.size 24 [.slice A b.length cap] ∧ Box W' (w.heap.size + 1) 28 [.int .i64 vk, .int .i64 vn, .string vs, .slice D1 vids.length f1, .slice D2 vls.length f2] ∧ Box W' g9 24 [.slice A' b.length c'] ∧ Box W' g10 28 [.int .i64 vk, .int .i64 vn, .string vs, .slice E1 vids.length e1, .slice E2 vls.length e2] ∧ RSl 5 96 RType (fun y => W0.heap.size ≤ y) W' [.slice A' b.length c'] b ∧ RVal (fun y => W0.heap.size ≤ y) W' [.int .i64 vk, .int .i64 vn, .string vs, .slice E1 vids.length e1, .slice E2 vls.length e2] (.mk vk vn vs vids vls) ∧ RowKit.Below w.heap.size w W') ∧ Box W' X1 28 [.int .i64 xk, .int .i64 xn, .string xs, .slice P1 xi.length p1, .slice Q1 xl.length q1] ∧ RVal (New W1) W' [.int .i64 xk, .int .i64 xn, .string xs, .slice P1 xi.length p1, .slice Q1 xl.length q1] (ValueD.mk xk xn xs xi xl)) ∧ Box W' w3.heap.size 28 [.int .i64 xk, .int .i64 xn, .string xs, .slice P2 xi.length p2, .slice Q2 xl.length q2] ∧ RVal (New W2) W' [.int .i64 xk, .int .i64 xn, .string xs, .slice P2 xi.length p2, .slice Q2 xl.length q2] (ValueD.mk xk xn xs xi xl) := fun W' h => ⟨H2.out W' (below_via hbx h hbx.size), (Box.new w3 28 [.int .i64 xk, .int .i64 xn, .string xs, .slice P2 xi.length p2, .slice Q2 xl.length q2]).below h (Box.new w3 28 [.int .i64 xk, .int .i64 xn, .string xs, .slice P2 xi.length p2, .slice Q2 xl.length q2]).lt, RVal.fair.below (RVal.fair.keep hx (Keep.alloc _ w3 (.cells #[.int .i64 xk, .int .i64 xn, .string xs, .slice P2 xi.length p2, .slice Q2 xl.length q2] 28))) h⟩
    have H3 := Lib.hid h3
    have G := H2.out w3 hb
    have c0 : w3.cell? ⟨g9, 0, none⟩ = some (.slice A' b.length c') := G.1.2.2.1.cell 0
    have hl0 := G.1.2.2.1.lt
    clear hx hb hbx h3 G G2
    go_wp2_with fail
    generalize hWq : w3.alloc (.cells #[.int .i64 xk, .int .i64 xn, .string xs, .slice P2 xi.length p2, .slice Q2 xl.length q2] 28) = W3 at *
    generalize hXq : w3.heap.size = X2 at *
    clear hWq hXq c0 hl0 w3
    replace H3 : Hid (∀ W', RowKit.Below W3.heap.size W3 W' → (((Box W' w.heap.size 24 [.slice A b.length cap] ∧ Box W' (w.heap.size + 1) 28 [.int .i64 vk, .int .i64 vn, .string vs, .slice D1 vids.length f1, .slice D2 vls.length f2] ∧ Box W' g9 24 [.slice A' b.length c'] ∧ Box W' g10 28 [.int .i64 vk, .int .i64 vn, .string vs, .slice E1 vids.length e1, .slice E2 vls.length e2] ∧ RSl 5 96 RType (fun y => W0.heap.size ≤ y) W' [.slice A' b.length c'] b ∧ RVal (fun y => W0.heap.size ≤ y) W' [.int .i64 vk, .int .i64 vn, .string vs, .slice E1 vids.length e1, .slice E2 vls.length e2] (.mk vk vn vs vids vls) ∧ RowKit.Below w.heap.size w W') ∧ Box W' X1 28 [.int .i64 xk, .int .i64 xn, .string xs, .slice P1 xi.length p1, .slice Q1 xl.length q1] ∧ RVal (New W1) W' [.int .i64 xk, .int .i64 xn, .string xs, .slice P1 xi.length p1, .slice Q1 xl.length q1] (ValueD.mk xk xn xs xi xl)) ∧ Box W' X2 28 [.int .i64 xk, .int .i64 xn, .string xs, .slice P2 xi.length p2, .slice Q2 xl.length q2] ∧ RVal (New W2) W' [.int .i64 xk, .int .i64 xn, .string xs, .slice P2 xi.length p2, .slice Q2 xl.length q2] (ValueD.mk xk xn xs xi xl))) := H3
    have G3 := H3.out W3 (Below.refl _ _)
    refine (HFa.out _ _ _ _ G3.1.1.2.2.2.2.1 (HW.out.below G3.1.1.2.2.2.2.2.2)).mono ?_
    rintro e w4 ⟨cs3, rfl, hx, hb⟩
    obtain ⟨P3, p3, Q3, q3, rfl, -, -⟩ := hx.parts
    have hbx := hb.alloc hb.size (.cells #[.int .i64 yk, .int .i64 yn, .string ys, .slice P3 yi.length p3, .slice Q3 yl.length q3] 28)
    have h4 : ∀ W', RowKit.Below (w4.alloc (.cells #[.int .i64 yk, .int .i64 yn, .string ys, .slice P3 yi.length p3, .slice Q3 yl.length q3] 28)).heap.size (w4.alloc (.cells #[.int .i64 yk, .int .i64 yn, .string ys, .slice P3 yi.length p3, .slice Q3 yl.length q3] 28)) W' → (((Box W' w.heap.size 24 [.slice A b.length cap] ∧ Box W' (w.heap.size + 1) 28 [.int .i64 vk, .int .i64 vn, .string vs, .slice D1 vids.length f1, .slice D2 vls.length f2] ∧ Box W' g9 24 [.slice A' b.length c'] ∧ Box W' g10 28 [.int .i64 vk, .int .i64 vn, .string vs, .slice E1 vids.length e1, .slice E2 vls.length e2] ∧ RSl 5 96 RType (fun y => W0.heap.size ≤ y) W' [.slice A' b.length c'] b ∧ RVal (fun y => W0.heap.size ≤ y) W' [.int .i64 vk, .int .i64 vn, .string vs, .slice E1 vids.length e1, .slice E2 vls.length e2] (.mk vk vn vs vids vls) ∧ RowKit.Below w.heap.size w W') ∧ Box W' X1 28 [.int .i64 xk, .int .i64 xn, .string xs, .slice P1 xi.length p1, .slice Q1 xl.length q1] ∧ RVal (New W1) W' [.int .i64 xk, .int .i64 xn, .string xs, .slice P1 xi.length p1, .slice Q1 xl.length q1] (ValueD.mk xk xn xs xi xl)) ∧ Box W' X2 28 [.int .i64 xk, .int .i64 xn, .string xs, .slice P2 xi.length p2, .slice Q2 xl.length q2] ∧ RVal (New W2) W' [.int .i64 xk, .int .i64 xn, .string xs, .slice P2 xi.length p2, .slice Q2 xl.length q2] (ValueD.mk xk xn xs xi xl)) ∧ Box W' w4.heap.size 28 [.int .i64 yk, .int .i64 yn, .string ys, .slice P3 yi.length p3, .slice Q3 yl.length q3] ∧ RVal (New W3) W' [.int .i64 yk, .int .i64 yn, .string ys, .slice P3 yi.length p3, .slice Q3 yl.length q3] (ValueD.mk yk yn ys yi yl) := fun W' h => ⟨H3.out W' (below_via hbx h hbx.size), (Box.new w4 28 [.int .i64 yk, .int .i64 yn, .string ys, .slice P3 yi.length p3, .slice Q3 yl.length q3]).below h (Box.new w4 28 [.int .i64 yk, .int .i64 yn, .string ys, .slice P3 yi.length p3, .slice Q3 yl.length q3]).lt, RVal.fair.below (RVal.fair.keep hx (Keep.alloc _ w4 (.cells #[.int .i64 yk, .int .i64 yn, .string ys, .slice P3 yi.length p3, .slice Q3 yl.length q3] 28))) h⟩
    have H4 := Lib.hid h4
    have G := H3.out w4 hb
    have c0 : w4.cell? ⟨w.heap.size, 0, none⟩ = some (.slice A b.length cap) := G.1.1.1.cell 0
    have hl0 := G.1.1.1.lt
    clear hx hb hbx h4 G G3
    go_wp2_with fail
    generalize hWq : w4.alloc (.cells #[.int .i64 yk, .int .i64 yn, .string ys, .slice P3 yi.length p3, .slice Q3 yl.length q3] 28) = W4 at *
    generalize hXq : w4.heap.size = X3 at *
    clear hWq hXq c0 hl0 w4
    replace H4 : Hid (∀ W', RowKit.Below W4.heap.size W4 W' → ((((Box W' w.heap.size 24 [.slice A b.length cap] ∧ Box W' (w.heap.size + 1) 28 [.int .i64 vk, .int .i64 vn, .string vs, .slice D1 vids.length f1, .slice D2 vls.length f2] ∧ Box W' g9 24 [.slice A' b.length c'] ∧ Box W' g10 28 [.int .i64 vk, .int .i64 vn, .string vs, .slice E1 vids.length e1, .slice E2 vls.length e2] ∧ RSl 5 96 RType (fun y => W0.heap.size ≤ y) W' [.slice A' b.length c'] b ∧ RVal (fun y => W0.heap.size ≤ y) W' [.int .i64 vk, .int .i64 vn, .string vs, .slice E1 vids.length e1, .slice E2 vls.length e2] (.mk vk vn vs vids vls) ∧ RowKit.Below w.heap.size w W') ∧ Box W' X1 28 [.int .i64 xk, .int .i64 xn, .string xs, .slice P1 xi.length p1, .slice Q1 xl.length q1] ∧ RVal (New W1) W' [.int .i64 xk, .int .i64 xn, .string xs, .slice P1 xi.length p1, .slice Q1 xl.length q1] (ValueD.mk xk xn xs xi xl)) ∧ Box W' X2 28 [.int .i64 xk, .int .i64 xn, .string xs, .slice P2 xi.length p2, .slice Q2 xl.length q2] ∧ RVal (New W2) W' [.int .i64 xk, .int .i64 xn, .string xs, .slice P2 xi.length p2, .slice Q2 xl.length q2] (ValueD.mk xk xn xs xi xl)) ∧ Box W' X3 28 [.int .i64 yk, .int .i64 yn, .string ys, .slice P3 yi.length p3, .slice Q3 yl.length q3] ∧ RVal (New W3) W' [.int .i64 yk, .int .i64 yn, .string ys, .slice P3 yi.length p3, .slice Q3 yl.length q3] (ValueD.mk yk yn ys yi yl))) := H4
    have G4 := H4.out W4 (Below.refl _ _)
    refine (HFb.out _ ((RSl.fair RType.fair).below HB.out G4.1.1.1.2.2.2.2.2.2) (HM.out.below G4.1.1.1.2.2.2.2.2.2)).mono ?_
    rintro e w5 ⟨cs4, rfl, hx, hb⟩
    obtain ⟨P4, p4, Q4, q4, rfl, -, -⟩ := hx.parts
    have hbx := hb.alloc hb.size (.cells #[.int .i64 yk, .int .i64 yn, .string ys, .slice P4 yi.length p4, .slice Q4 yl.length q4] 28)
    have h5 : ∀ W', RowKit.Below (w5.alloc (.cells #[.int .i64 yk, .int .i64 yn, .string ys, .slice P4 yi.length p4, .slice Q4 yl.length q4] 28)).heap.size (w5.alloc (.cells #[.int .i64 yk, .int .i64 yn, .string ys, .slice P4 yi.length p4, .slice Q4 yl.length q4] 28)) W' → ((((Box W' w.heap.size 24 [.slice A b.length cap] ∧ Box W' (w.heap.size + 1) 28 [.int .i64 vk, .int .i64 vn, .string vs, .slice D1 vids.length f1, .slice D2 vls.length f2] ∧ Box W' g9 24 [.slice A' b.length c'] ∧ Box W' g10 28 [.int .i64 vk, .int .i64 vn, .string vs, .slice E1 vids.length e1, .slice E2 vls.length e2] ∧ RSl 5 96 RType (fun y => W0.heap.size ≤ y) W' [.slice A' b.length c'] b ∧ RVal (fun y => W0.heap.size ≤ y) W' [.int .i64 vk, .int .i64 vn, .string vs, .slice E1 vids.length e1, .slice E2 vls.length e2] (.mk vk vn vs vids vls) ∧ RowKit.Below w.heap.size w W') ∧ Box W' X1 28 [.int .i64 xk, .int .i64 xn, .string xs, .slice P1 xi.length p1, .slice Q1 xl.length q1] ∧ RVal (New W1) W' [.int .i64 xk, .int .i64 xn, .string xs, .slice P1 xi.length p1, .slice Q1 xl.length q1] (ValueD.mk xk xn xs xi xl)) ∧ Box W' X2 28 [.int .i64 xk, .int .i64 xn, .string xs, .slice P2 xi.length p2, .slice Q2 xl.length q2] ∧ RVal (New W2) W' [.int .i64 xk, .int .i64 xn, .string xs, .slice P2 xi.length p2, .slice Q2 xl.length q2] (ValueD.mk xk xn xs xi xl)) ∧ Box W' X3 28 [.int .i64 yk, .int .i64 yn, .string ys, .slice P3 yi.length p3, .slice Q3 yl.length q3] ∧ RVal (New W3) W' [.int .i64 yk, .int .i64 yn, .string ys, .slice P3 yi.length p3, .slice Q3 yl.length q3] (ValueD.mk yk yn ys yi yl)) ∧ Box W' w5.heap.size 28 [.int .i64 yk, .int .i64 yn, .string ys, .slice P4 yi.length p4, .slice Q4 yl.length q4] ∧ RVal (New W4) W' [.int .i64 yk, .int .i64 yn, .string ys, .slice P4 yi.length p4, .slice Q4 yl.length q4] (ValueD.mk yk yn ys yi yl) := fun W' h => ⟨H4.out W' (below_via hbx h hbx.size), (Box.new w5 28 [.int .i64 yk, .int .i64 yn, .string ys, .slice P4 yi.length p4, .slice Q4 yl.length q4]).below h (Box.new w5 28 [.int .i64 yk, .int .i64 yn, .string ys, .slice P4 yi.length p4, .slice Q4 yl.length q4]).lt, RVal.fair.below (RVal.fair.keep hx (Keep.alloc _ w5 (.cells #[.int .i64 yk, .int .i64 yn, .string ys, .slice P4 yi.length p4, .slice Q4 yl.length q4] 28))) h⟩
    have H5 := Lib.hid h5
    have G := H4.out w5 hb
    obtain ⟨u0, u1, u2, u3, u4⟩ := (G.1.1.1.2.2.2.1).five
    have hl0 := G.1.1.1.2.2.2.1.lt
    clear hx hb hbx h5 G G4
    go_wp2_with fail
    generalize hWq : w5.alloc (.cells #[.int .i64 yk, .int .i64 yn, .string ys, .slice P4 yi.length p4, .slice Q4 yl.length q4] 28) = W5 at *
    generalize hXq : w5.heap.size = X4 at *
    clear hWq hXq u0 u1 u2 u3 u4 hl0 w5
    replace H5 : Hid (∀ W', RowKit.Below W5.heap.size W5 W' → (((((Box W' w.heap.size 24 [.slice A b.length cap] ∧ Box W' (w.heap.size + 1) 28 [.int .i64 vk, .int .i64 vn, .string vs, .slice D1 vids.length f1, .slice D2 vls.length f2] ∧ Box W' g9 24 [.slice A' b.length c'] ∧ Box W' g10 28 [.int .i64 vk, .int .i64 vn, .string vs, .slice E1 vids.length e1, .slice E2 vls.length e2] ∧ RSl 5 96 RType (fun y => W0.heap.size ≤ y) W' [.slice A' b.length c'] b ∧ RVal (fun y => W0.heap.size ≤ y) W' [.int .i64 vk, .int .i64 vn, .string vs, .slice E1 vids.length e1, .slice E2 vls.length e2] (.mk vk vn vs vids vls) ∧ RowKit.Below w.heap.size w W') ∧ Box W' X1 28 [.int .i64 xk, .int .i64 xn, .string xs, .slice P1 xi.length p1, .slice Q1 xl.length q1] ∧ RVal (New W1) W' [.int .i64 xk, .int .i64 xn, .string xs, .slice P1 xi.length p1, .slice Q1 xl.length q1] (ValueD.mk xk xn xs xi xl)) ∧ Box W' X2 28 [.int .i64 xk, .int .i64 xn, .string xs, .slice P2 xi.length p2, .slice Q2 xl.length q2] ∧ RVal (New W2) W' [.int .i64 xk, .int .i64 xn, .string xs, .slice P2 xi.length p2, .slice Q2 xl.length q2] (ValueD.mk xk xn xs xi xl)) ∧ Box W' X3 28 [.int .i64 yk, .int .i64 yn, .string ys, .slice P3 yi.length p3, .slice Q3 yl.length q3] ∧ RVal (New W3) W' [.int .i64 yk, .int .i64 yn, .string ys, .slice P3 yi.length p3, .slice Q3 yl.length q3] (ValueD.mk yk yn ys yi yl)) ∧ Box W' X4 28 [.int .i64 yk, .int .i64 yn, .string ys, .slice P4 yi.length p4, .slice Q4 yl.length q4] ∧ RVal (New W4) W' [.int .i64 yk, .int .i64 yn, .string ys, .slice P4 yi.length p4, .slice Q4 yl.length q4] (ValueD.mk yk yn ys yi yl))) := H5
    have G5 := H5.out W5 (Below.refl _ _)
    refine (HSa.out _ _ _ G5.1.1.1.1.2.2.2.2.2.1).mono ?_
    rintro e w6 ⟨rfl, hb6⟩
    have G := H5.out w6 hb6
    obtain ⟨u0, u1, u2, u3, u4⟩ := (G.1.1.1.1.2.1).five
    have hl0 := G.1.1.1.1.2.1.lt
    clear G5
    go_wp2_with fail
    refine (HSb.out _ _ (RVal.fair.below HR.out G.1.1.1.1.2.2.2.2.2.2)).mono ?_
    rintro e w7 ⟨rfl, hb7⟩
    have hB8 := below_via hb6 hb7 hb6.size
    clear G u0 u1 u2 u3 u4 hl0 hb6 hb7
    go_upto_region 8 with fail
    have HSK : Hid (∀ W', RowKit.Below W5.heap.size W5 W' → ((World.cell? W' ⟨w.heap.size, 0, none⟩ = some (.slice A b.length cap) ∧ (World.cell? W' ⟨w.heap.size + 1, 0, none⟩ = some (.int .i64 vk) ∧ World.cell? W' ⟨w.heap.size + 1, 1, none⟩ = some (.int .i64 vn) ∧ World.cell? W' ⟨w.heap.size + 1, 2, none⟩ = some (.string vs) ∧ World.cell? W' ⟨w.heap.size + 1, 3, none⟩ = some (.slice D1 vids.length f1) ∧ World.cell? W' ⟨w.heap.size + 1, 4, none⟩ = some (.slice D2 vls.length f2))) ∧ World.cell? W' ⟨g9, 0, none⟩ = some (.slice A' b.length c') ∧ (World.cell? W' ⟨g10, 0, none⟩ = some (.int .i64 vk) ∧ World.cell? W' ⟨g10, 1, none⟩ = some (.int .i64 vn) ∧ World.cell? W' ⟨g10, 2, none⟩ = some (.string vs) ∧ World.cell? W' ⟨g10, 3, none⟩ = some (.slice E1 vids.length e1) ∧ World.cell? W' ⟨g10, 4, none⟩ = some (.slice E2 vls.length e2)) ∧ (World.cell? W' ⟨X1, 0, none⟩ = some (.int .i64 xk) ∧ World.cell? W' ⟨X1, 1, none⟩ = some (.int .i64 xn) ∧ World.cell? W' ⟨X1, 2, none⟩ = some (.string xs) ∧ World.cell? W' ⟨X1, 3, none⟩ = some (.slice P1 xi.length p1) ∧ World.cell? W' ⟨X1, 4, none⟩ = some (.slice Q1 xl.length q1)) ∧ (World.cell? W' ⟨X2, 0, none⟩ = some (.int .i64 xk) ∧ World.cell? W' ⟨X2, 1, none⟩ = some (.int .i64 xn) ∧ World.cell? W' ⟨X2, 2, none⟩ = some (.string xs) ∧ World.cell? W' ⟨X2, 3, none⟩ = some (.slice P2 xi.length p2) ∧ World.cell? W' ⟨X2, 4, none⟩ = some (.slice Q2 xl.length q2)) ∧ (World.cell? W' ⟨X3, 0, none⟩ = some (.int .i64 yk) ∧ World.cell? W' ⟨X3, 1, none⟩ = some (.int .i64 yn) ∧ World.cell? W' ⟨X3, 2, none⟩ = some (.string ys) ∧ World.cell? W' ⟨X3, 3, none⟩ = some (.slice P3 yi.length p3) ∧ World.cell? W' ⟨X3, 4, none⟩ = some (.slice Q3 yl.length q3)) ∧ (World.cell? W' ⟨X4, 0, none⟩ = some (.int .i64 yk) ∧ World.cell? W' ⟨X4, 1, none⟩ = some (.int .i64 yn) ∧ World.cell? W' ⟨X4, 2, none⟩ = some (.string ys) ∧ World.cell? W' ⟨X4, 3, none⟩ = some (.slice P4 yi.length p4) ∧ World.cell? W' ⟨X4, 4, none⟩ = some (.slice Q4 yl.length q4)))) := fun W' h => by
      have G := H5.out W' h
      exact ⟨⟨G.1.1.1.1.1.cell 0, (G.1.1.1.1.2.1).five⟩, G.1.1.1.1.2.2.1.cell 0, (G.1.1.1.1.2.2.2.1).five, (G.1.1.1.2.1).five, (G.1.1.2.1).five, (G.1.2.1).five, (G.2.1).five⟩
    replace hB8 := below_drew hB8
    have hS := HSK.out _ hB8
    refine late_start (fun W' => (World.cell? W' ⟨w.heap.size, 0, none⟩ = some (.slice A b.length cap) ∧ (World.cell? W' ⟨w.heap.size + 1, 0, none⟩ = some (.int .i64 vk) ∧ World.cell? W' ⟨w.heap.size + 1, 1, none⟩ = some (.int .i64 vn) ∧ World.cell? W' ⟨w.heap.size + 1, 2, none⟩ = some (.string vs) ∧ World.cell? W' ⟨w.heap.size + 1, 3, none⟩ = some (.slice D1 vids.length f1) ∧ World.cell? W' ⟨w.heap.size + 1, 4, none⟩ = some (.slice D2 vls.length f2))) ∧ World.cell? W' ⟨g9, 0, none⟩ = some (.slice A' b.length c') ∧ (World.cell? W' ⟨g10, 0, none⟩ = some (.int .i64 vk) ∧ World.cell? W' ⟨g10, 1, none⟩ = some (.int .i64 vn) ∧ World.cell? W' ⟨g10, 2, none⟩ = some (.string vs) ∧ World.cell? W' ⟨g10, 3, none⟩ = some (.slice E1 vids.length e1) ∧ World.cell? W' ⟨g10, 4, none⟩ = some (.slice E2 vls.length e2)) ∧ (World.cell? W' ⟨X1, 0, none⟩ = some (.int .i64 xk) ∧ World.cell? W' ⟨X1, 1, none⟩ = some (.int .i64 xn) ∧ World.cell? W' ⟨X1, 2, none⟩ = some (.string xs) ∧ World.cell? W' ⟨X1, 3, none⟩ = some (.slice P1 xi.length p1) ∧ World.cell? W' ⟨X1, 4, none⟩ = some (.slice Q1 xl.length q1)) ∧ (World.cell? W' ⟨X2, 0, none⟩ = some (.int .i64 xk) ∧ World.cell? W' ⟨X2, 1, none⟩ = some (.int .i64 xn) ∧ World.cell? W' ⟨X2, 2, none⟩ = some (.string xs) ∧ World.cell? W' ⟨X2, 3, none⟩ = some (.slice P2 xi.length p2) ∧ World.cell? W' ⟨X2, 4, none⟩ = some (.slice Q2 xl.length q2)) ∧ (World.cell? W' ⟨X3, 0, none⟩ = some (.int .i64 yk) ∧ World.cell? W' ⟨X3, 1, none⟩ = some (.int .i64 yn) ∧ World.cell? W' ⟨X3, 2, none⟩ = some (.string ys) ∧ World.cell? W' ⟨X3, 3, none⟩ = some (.slice P3 yi.length p3) ∧ World.cell? W' ⟨X3, 4, none⟩ = some (.slice Q3 yl.length q3)) ∧ (World.cell? W' ⟨X4, 0, none⟩ = some (.int .i64 yk) ∧ World.cell? W' ⟨X4, 1, none⟩ = some (.int .i64 yn) ∧ World.cell? W' ⟨X4, 2, none⟩ = some (.string ys) ∧ World.cell? W' ⟨X4, 3, none⟩ = some (.slice P4 yi.length p4) ∧ World.cell? W' ⟨X4, 4, none⟩ = some (.slice Q4 yl.length q4))) 52 (by kernel_rfl) ?_
    generalize w7.drew = Wb at hB8 hS ⊢
    refine late_take (i := 0) (v := ?_) rfl (by kernel_rfl) (fun _ _ _ h => h) ⟨by kernel_rfl, ?_⟩ hS ?_
    rotate_left
    · (intro w hSw; (try dsimp only at hSw); go_simp; first | done | with_reducible rfl)
    try simp only [Act.put, List.getElem_toArray, List.getElem_cons_zero, List.getElem_cons_succ, List.setIfInBounds_toArray, List.set_cons_zero, List.set_cons_succ]
    refine late_take (i := 1) (v := ?_) rfl (by kernel_rfl) (fun _ _ _ h => h) ⟨by kernel_rfl, ?_⟩ hS ?_
    rotate_left
    · (intro w hSw; (try dsimp only at hSw); go_simp; first | done | with_reducible rfl)
    try simp only [Act.put, List.getElem_toArray, List.getElem_cons_zero, List.getElem_cons_succ, List.setIfInBounds_toArray, List.set_cons_zero, List.set_cons_succ]
    refine late_one (i := 2) rfl (by kernel_rfl) (fun K hK => ?_)
    go_simp
    refine ((HSS.out _ _ (ValueD.mk xk xn xs xi xl) [.int .i64 xk, .int .i64 xn, .string xs, .slice P1 xi.length p1, .slice Q1 xl.length q1] [.int .i64 xk, .int .i64 xn, .string xs, .slice P2 xi.length p2, .slice Q2 xl.length q2] _ (H5.out _ hB8).1.1.1.2.2 (H5.out _ hB8).1.1.2.2)).mono ?_
    rintro e wn ⟨rfl, hbn⟩
    replace hB8 := below_via hB8 hbn hB8.size
    clear hS hbn
    have hS := HSK.out _ hB8
    refine hK.out _ _ (fun _ => hS) ?_
    clear hK K
    try simp only [Act.put, List.getElem_toArray, List.getElem_cons_zero, List.getElem_cons_succ, List.setIfInBounds_toArray, List.set_cons_zero, List.set_cons_succ]
    refine late_take (i := 3) (v := ?_) rfl (by kernel_rfl) (fun _ _ _ h => h) ⟨by kernel_rfl, ?_⟩ hS ?_
    rotate_left
    · (intro w hSw; (try dsimp only at hSw); go_simp; first | done | with_reducible rfl)
    try simp only [Act.put, List.getElem_toArray, List.getElem_cons_zero, List.getElem_cons_succ, List.setIfInBounds_toArray, List.set_cons_zero, List.set_cons_succ]
    refine late_take (i := 4) (v := ?_) rfl (by kernel_rfl) (fun _ _ _ h => h) ⟨by kernel_rfl, ?_⟩ hS ?_
    rotate_left
    · (intro w hSw; (try dsimp only at hSw); go_simp; first | done | with_reducible rfl)
    try simp only [Act.put, List.getElem_toArray, List.getElem_cons_zero, List.getElem_cons_succ, List.setIfInBounds_toArray, List.set_cons_zero, List.set_cons_succ]
    refine late_take (i := 5) (v := ?_) rfl (by kernel_rfl) (fun _ _ _ h => h) ⟨by kernel_rfl, ?_⟩ hS ?_
    rotate_left
    · (intro w hSw; (try dsimp only at hSw); go_simp; first | done | with_reducible rfl)
    try simp only [Act.put, List.getElem_toArray, List.getElem_cons_zero, List.getElem_cons_succ, List.setIfInBounds_toArray, List.set_cons_zero, List.set_cons_succ]
    refine late_take (i := 6) (v := ?_) rfl (by kernel_rfl) (fun _ _ _ h => h) ⟨by kernel_rfl, ?_⟩ hS ?_
    rotate_left
    · (intro w hSw; (try dsimp only at hSw); go_simp; first | done | with_reducible rfl)
    try simp only [Act.put, List.getElem_toArray, List.getElem_cons_zero, List.getElem_cons_succ, List.setIfInBounds_toArray, List.set_cons_zero, List.set_cons_succ]
    refine late_take (i := 7) (v := ?_) rfl (by kernel_rfl) (fun _ _ _ h => h) ⟨by kernel_rfl, ?_⟩ hS ?_
    rotate_left
    · (intro w hSw; (try dsimp only at hSw); go_simp; first | done | with_reducible rfl)
    try simp only [Act.put, List.getElem_toArray, List.getElem_cons_zero, List.getElem_cons_succ, List.setIfInBounds_toArray, List.set_cons_zero, List.set_cons_succ]
    refine late_take (i := 8) (v := ?_) rfl (by kernel_rfl) (fun _ _ _ h => h) ⟨by kernel_rfl, ?_⟩ hS ?_
    rotate_left
    · (intro w hSw; (try dsimp only at hSw); go_simp; first | done | with_reducible rfl)
    try simp only [Act.put, List.getElem_toArray, List.getElem_cons_zero, List.getElem_cons_succ, List.setIfInBounds_toArray, List.set_cons_zero, List.set_cons_succ]
    refine late_take (i := 9) (v := ?_) rfl (by kernel_rfl) (fun _ _ _ h => h) ⟨by kernel_rfl, ?_⟩ hS ?_
    rotate_left
    · (intro w hSw; (try dsimp only at hSw); go_simp; first | done | with_reducible rfl)
    try simp only [Act.put, List.getElem_toArray, List.getElem_cons_zero, List.getElem_cons_succ, List.setIfInBounds_toArray, List.set_cons_zero, List.set_cons_succ]
    refine late_take (i := 10) (v := ?_) rfl (by kernel_rfl) (fun _ _ _ h => h) ⟨by kernel_rfl, ?_⟩ hS ?_
    rotate_left
    · (intro w hSw; (try dsimp only at hSw); go_simp; first | done | with_reducible rfl)
    try simp only [Act.put, List.getElem_toArray, List.getElem_cons_zero, List.getElem_cons_succ, List.setIfInBounds_toArray, List.set_cons_zero, List.set_cons_succ]
    refine late_one (i := 11) rfl (by kernel_rfl) (fun K hK => ?_)
    go_simp
    refine ((HSS.out _ _ (ValueD.mk yk yn ys yi yl) [.int .i64 yk, .int .i64 yn, .string ys, .slice P3 yi.length p3, .slice Q3 yl.length q3] [.int .i64 yk, .int .i64 yn, .string ys, .slice P4 yi.length p4, .slice Q4 yl.length q4] _ (H5.out _ hB8).1.2.2 (H5.out _ hB8).2.2)).mono ?_
    rintro e wn ⟨rfl, hbn⟩
    replace hB8 := below_via hB8 hbn hB8.size
    clear hS hbn
    have hS := HSK.out _ hB8
    refine hK.out _ _ (fun _ => hS) ?_
    clear hK K
    try simp only [Act.put, List.getElem_toArray, List.getElem_cons_zero, List.getElem_cons_succ, List.setIfInBounds_toArray, List.set_cons_zero, List.set_cons_succ]
    refine late_take (i := 12) (v := ?_) rfl (by kernel_rfl) (fun _ _ _ h => h) ⟨by kernel_rfl, ?_⟩ hS ?_
    rotate_left
    · (intro w hSw; (try dsimp only at hSw); go_simp; first | done | with_reducible rfl)
    try simp only [Act.put, List.getElem_toArray, List.getElem_cons_zero, List.getElem_cons_succ, List.setIfInBounds_toArray, List.set_cons_zero, List.set_cons_succ]
    refine late_take (i := 13) (v := ?_) rfl (by kernel_rfl) (fun _ _ _ h => h) ⟨by kernel_rfl, ?_⟩ hS ?_
    rotate_left
    · (intro w hSw; (try dsimp only at hSw); go_simp; first | done | with_reducible rfl)
    try simp only [Act.put, List.getElem_toArray, List.getElem_cons_zero, List.getElem_cons_succ, List.setIfInBounds_toArray, List.set_cons_zero, List.set_cons_succ]
    refine late_take (i := 14) (v := ?_) rfl (by kernel_rfl) (fun _ _ _ h => h) ⟨by kernel_rfl, ?_⟩ hS ?_
    rotate_left
    · (intro w hSw; (try dsimp only at hSw); go_simp; first | done | with_reducible rfl)
    try simp only [Act.put, List.getElem_toArray, List.getElem_cons_zero, List.getElem_cons_succ, List.setIfInBounds_toArray, List.set_cons_zero, List.set_cons_succ]
    refine late_take (i := 15) (v := ?_) rfl (by kernel_rfl) (fun _ _ _ h => h) ⟨by kernel_rfl, ?_⟩ hS ?_
    rotate_left
    · (intro w hSw; (try dsimp only at hSw); go_simp; first | done | with_reducible rfl)
    try simp only [Act.put, List.getElem_toArray, List.getElem_cons_zero, List.getElem_cons_succ, List.setIfInBounds_toArray, List.set_cons_zero, List.set_cons_succ]
    refine late_take (i := 16) (v := ?_) rfl (by kernel_rfl) (fun _ _ _ h => h) ⟨by kernel_rfl, ?_⟩ hS ?_
    rotate_left
    · (intro w hSw; (try dsimp only at hSw); go_simp; first | done | with_reducible rfl)
    try simp only [Act.put, List.getElem_toArray, List.getElem_cons_zero, List.getElem_cons_succ, List.setIfInBounds_toArray, List.set_cons_zero, List.set_cons_succ]
    refine late_take (i := 17) (v := ?_) rfl (by kernel_rfl) (fun _ _ _ h => h) ⟨by kernel_rfl, ?_⟩ hS ?_
    rotate_left
    · (intro w hSw; (try dsimp only at hSw); go_simp; first | done | with_reducible rfl)
    try simp only [Act.put, List.getElem_toArray, List.getElem_cons_zero, List.getElem_cons_succ, List.setIfInBounds_toArray, List.set_cons_zero, List.set_cons_succ]
    refine late_take (i := 18) (v := ?_) rfl (by kernel_rfl) (fun _ _ _ h => h) ⟨by kernel_rfl, ?_⟩ hS ?_
    rotate_left
    · (intro w hSw; (try dsimp only at hSw); go_simp; first | done | with_reducible rfl)
    try simp only [Act.put, List.getElem_toArray, List.getElem_cons_zero, List.getElem_cons_succ, List.setIfInBounds_toArray, List.set_cons_zero, List.set_cons_succ]
    refine late_take (i := 19) (v := ?_) rfl (by kernel_rfl) (fun _ _ _ h => h) ⟨by kernel_rfl, ?_⟩ hS ?_
    rotate_left
    · (intro w hSw; (try dsimp only at hSw); go_simp; first | done | with_reducible rfl)
    try simp only [Act.put, List.getElem_toArray, List.getElem_cons_zero, List.getElem_cons_succ, List.setIfInBounds_toArray, List.set_cons_zero, List.set_cons_succ]
    refine late_take (i := 20) (v := ?_) rfl (by kernel_rfl) (fun _ _ _ h => h) ⟨by kernel_rfl, ?_⟩ hS ?_
    rotate_left
    · (intro w hSw; (try dsimp only at hSw); go_simp; first | done | with_reducible rfl)
    try simp only [Act.put, List.getElem_toArray, List.getElem_cons_zero, List.getElem_cons_succ, List.setIfInBounds_toArray, List.set_cons_zero, List.set_cons_succ]
    refine late_take (i := 21) (v := ?_) rfl (by kernel_rfl) (fun _ _ _ h => h) ⟨by kernel_rfl, ?_⟩ hS ?_
    rotate_left
    · (intro w hSw; (try dsimp only at hSw); go_simp; first | done | with_reducible rfl)
    try simp only [Act.put, List.getElem_toArray, List.getElem_cons_zero, List.getElem_cons_succ, List.setIfInBounds_toArray, List.set_cons_zero, List.set_cons_succ]
    refine late_take (i := 22) (v := ?_) rfl (by kernel_rfl) (fun _ _ _ h => h) ⟨by kernel_rfl, ?_⟩ hS ?_
    rotate_left
    · (intro w hSw; (try dsimp only at hSw); go_simp; first | done | with_reducible rfl)
    try simp only [Act.put, List.getElem_toArray, List.getElem_cons_zero, List.getElem_cons_succ, List.setIfInBounds_toArray, List.set_cons_zero, List.set_cons_succ]
    refine late_take (i := 23) (v := ?_) rfl (by kernel_rfl) (fun _ _ _ h => h) ⟨by kernel_rfl, ?_⟩ hS ?_
    rotate_left
    · (intro w hSw; (try dsimp only at hSw); go_simp; first | done | with_reducible rfl)
    try simp only [Act.put, List.getElem_toArray, List.getElem_cons_zero, List.getElem_cons_succ, List.setIfInBounds_toArray, List.set_cons_zero, List.set_cons_succ]
    refine late_take (i := 24) (v := ?_) rfl (by kernel_rfl) (fun _ _ _ h => h) ⟨by kernel_rfl, ?_⟩ hS ?_
    rotate_left
    · (intro w hSw; (try dsimp only at hSw); go_simp; first | done | with_reducible rfl)
    try simp only [Act.put, List.getElem_toArray, List.getElem_cons_zero, List.getElem_cons_succ, List.setIfInBounds_toArray, List.set_cons_zero, List.set_cons_succ]
    refine late_take (i := 25) (v := ?_) rfl (by kernel_rfl) (fun _ _ _ h => h) ⟨by kernel_rfl, ?_⟩ hS ?_
    rotate_left
    · (intro w hSw; (try dsimp only at hSw); go_simp; first | done | with_reducible rfl)
    try simp only [Act.put, List.getElem_toArray, List.getElem_cons_zero, List.getElem_cons_succ, List.setIfInBounds_toArray, List.set_cons_zero, List.set_cons_succ]
    refine late_take (i := 26) (v := ?_) rfl (by kernel_rfl) (fun _ _ _ h => h) ⟨by kernel_rfl, ?_⟩ hS ?_
    rotate_left
    · (intro w hSw; (try dsimp only at hSw); go_simp; first | done | with_reducible rfl)
    try simp only [Act.put, List.getElem_toArray, List.getElem_cons_zero, List.getElem_cons_succ, List.setIfInBounds_toArray, List.set_cons_zero, List.set_cons_succ]
    refine late_take (i := 27) (v := ?_) rfl (by kernel_rfl) (fun _ _ _ h => h) ⟨by kernel_rfl, ?_⟩ hS ?_
    rotate_left
    · (intro w hSw; (try dsimp only at hSw); go_simp; first | done | with_reducible rfl)
    try simp only [Act.put, List.getElem_toArray, List.getElem_cons_zero, List.getElem_cons_succ, List.setIfInBounds_toArray, List.set_cons_zero, List.set_cons_succ]
    refine late_take (i := 28) (v := ?_) rfl (by kernel_rfl) (fun _ _ _ h => h) ⟨by kernel_rfl, ?_⟩ hS ?_
    rotate_left
    · (intro w hSw; (try dsimp only at hSw); go_simp; first | done | with_reducible rfl)
    try simp only [Act.put, List.getElem_toArray, List.getElem_cons_zero, List.getElem_cons_succ, List.setIfInBounds_toArray, List.set_cons_zero, List.set_cons_succ]
    refine late_take (i := 29) (v := ?_) rfl (by kernel_rfl) (fun _ _ _ h => h) ⟨by kernel_rfl, ?_⟩ hS ?_
    rotate_left
    · (intro w hSw; (try dsimp only at hSw); go_simp; first | done | with_reducible rfl)
    try simp only [Act.put, List.getElem_toArray, List.getElem_cons_zero, List.getElem_cons_succ, List.setIfInBounds_toArray, List.set_cons_zero, List.set_cons_succ]
    refine late_take (i := 30) (v := ?_) rfl (by kernel_rfl) (fun _ _ _ h => h) ⟨by kernel_rfl, ?_⟩ hS ?_
    rotate_left
    · (intro w hSw; (try dsimp only at hSw); go_simp; first | done | with_reducible rfl)
    try simp only [Act.put, List.getElem_toArray, List.getElem_cons_zero, List.getElem_cons_succ, List.setIfInBounds_toArray, List.set_cons_zero, List.set_cons_succ]
    refine late_take (i := 31) (v := ?_) rfl (by kernel_rfl) (fun _ _ _ h => h) ⟨by kernel_rfl, ?_⟩ hS ?_
    rotate_left
    · (intro w hSw; (try dsimp only at hSw); go_simp; first | done | with_reducible rfl)
    try simp only [Act.put, List.getElem_toArray, List.getElem_cons_zero, List.getElem_cons_succ, List.setIfInBounds_toArray, List.set_cons_zero, List.set_cons_succ]
    refine late_take (i := 33) (v := ?_) rfl (by kernel_rfl) (fun _ _ _ h => h) ⟨by kernel_rfl, ?_⟩ hS ?_
    rotate_left
    · (intro w hSw; (try dsimp only at hSw); go_simp; first | done | with_reducible rfl)
    try simp only [Act.put, List.getElem_toArray, List.getElem_cons_zero, List.getElem_cons_succ, List.setIfInBounds_toArray, List.set_cons_zero, List.set_cons_succ]
    refine late_take (i := 34) (v := ?_) rfl (by kernel_rfl) (fun _ _ _ h => h) ⟨by kernel_rfl, ?_⟩ hS ?_
    rotate_left
    · (intro w hSw; (try dsimp only at hSw); go_simp; first | done | with_reducible rfl)
    try simp only [Act.put, List.getElem_toArray, List.getElem_cons_zero, List.getElem_cons_succ, List.setIfInBounds_toArray, List.set_cons_zero, List.set_cons_succ]
    refine late_take (i := 35) (v := ?_) rfl (by kernel_rfl) (fun _ _ _ h => h) ⟨by kernel_rfl, ?_⟩ hS ?_
    rotate_left
    · (intro w hSw; (try dsimp only at hSw); go_simp; first | done | with_reducible rfl)
    try simp only [Act.put, List.getElem_toArray, List.getElem_cons_zero, List.getElem_cons_succ, List.setIfInBounds_toArray, List.set_cons_zero, List.set_cons_succ]
    refine late_one (i := 32) rfl (by kernel_rfl) (fun K hK => ?_)
    go_simp
    refine ((HTa.out _ _ _ _ _ [.int .i64 vk, .int .i64 vn, .string vs, .slice E1 vids.length e1, .slice E2 vls.length e2] (H5.out _ hB8).1.1.1.1.2.2.2.2.1 (H5.out _ hB8).1.1.1.1.2.2.2.2.2.1 (HW.out.below (H5.out _ hB8).1.1.1.1.2.2.2.2.2.2))).mono ?_
    rintro e wn ⟨rfl, hbn⟩
    replace hB8 := below_via hB8 hbn hB8.size
    clear hS hbn
    have hS := HSK.out _ hB8
    refine hK.out _ _ (fun _ => hS) ?_
    clear hK K
    try simp only [Act.put, List.getElem_toArray, List.getElem_cons_zero, List.getElem_cons_succ, List.setIfInBounds_toArray, List.set_cons_zero, List.set_cons_succ]
    refine late_one (i := 36) rfl (by kernel_rfl) (fun K hK => ?_)
    go_simp
    refine ((HTb.out _ [.int .i64 vk, .int .i64 vn, .string vs, .slice D1 vids.length f1, .slice D2 vls.length f2] ((RSl.fair RType.fair).below HB.out (H5.out _ hB8).1.1.1.1.2.2.2.2.2.2) (RVal.fair.below HR.out (H5.out _ hB8).1.1.1.1.2.2.2.2.2.2) (HM.out.below (H5.out _ hB8).1.1.1.1.2.2.2.2.2.2))).mono ?_
    rintro e wn ⟨rfl, hbn⟩
    replace hB8 := below_via hB8 hbn hB8.size
    clear hS hbn
    have hS := HSK.out _ hB8
    refine hK.out _ _ (fun _ => hS) ?_
    clear hK K
    try simp only [Act.put, List.getElem_toArray, List.getElem_cons_zero, List.getElem_cons_succ, List.setIfInBounds_toArray, List.set_cons_zero, List.set_cons_succ]
    refine late_take (i := 37) (v := ?_) rfl (by kernel_rfl) (fun _ _ _ h => h) ⟨by kernel_rfl, ?_⟩ hS ?_
    rotate_left
    · (intro w hSw; (try dsimp only at hSw); go_simp; first | done | with_reducible rfl)
    try simp only [Act.put, List.getElem_toArray, List.getElem_cons_zero, List.getElem_cons_succ, List.setIfInBounds_toArray, List.set_cons_zero, List.set_cons_succ]
    refine late_take (i := 38) (v := ?_) rfl (by kernel_rfl) (fun _ _ _ h => h) ⟨by kernel_rfl, ?_⟩ hS ?_
    rotate_left
    · (intro w hSw; (try dsimp only at hSw); go_simp; first | done | with_reducible rfl)
    try simp only [Act.put, List.getElem_toArray, List.getElem_cons_zero, List.getElem_cons_succ, List.setIfInBounds_toArray, List.set_cons_zero, List.set_cons_succ]
    refine late_take (i := 39) (v := ?_) rfl (by kernel_rfl) (fun _ _ _ h => h) ⟨by kernel_rfl, ?_⟩ hS ?_
    rotate_left
    · (intro w hSw; (try dsimp only at hSw); go_simp; first | done | with_reducible rfl)
    try simp only [Act.put, List.getElem_toArray, List.getElem_cons_zero, List.getElem_cons_succ, List.setIfInBounds_toArray, List.set_cons_zero, List.set_cons_succ]
    refine late_take (i := 40) (v := ?_) rfl (by kernel_rfl) (fun _ _ _ h => h) ⟨by kernel_rfl, ?_⟩ hS ?_
    rotate_left
    · (intro w hSw; (try dsimp only at hSw); go_simp; first | done | with_reducible rfl)
    try simp only [Act.put, List.getElem_toArray, List.getElem_cons_zero, List.getElem_cons_succ, List.setIfInBounds_toArray, List.set_cons_zero, List.set_cons_succ]
    refine late_take (i := 41) (v := ?_) rfl (by kernel_rfl) (fun _ _ _ h => h) ⟨by kernel_rfl, ?_⟩ hS ?_
    rotate_left
    · (intro w hSw; (try dsimp only at hSw); go_simp; first | done | with_reducible rfl)
    try simp only [Act.put, List.getElem_toArray, List.getElem_cons_zero, List.getElem_cons_succ, List.setIfInBounds_toArray, List.set_cons_zero, List.set_cons_succ]
    refine late_one (i := 42) rfl (by kernel_rfl) (fun K hK => ?_)
    go_simp
    refine ((HSS.out _ _ (ValueD.mk vk vn vs vids vls) [.int .i64 vk, .int .i64 vn, .string vs, .slice E1 vids.length e1, .slice E2 vls.length e2] [.int .i64 vk, .int .i64 vn, .string vs, .slice D1 vids.length f1, .slice D2 vls.length f2] _ (H5.out _ hB8).1.1.1.1.2.2.2.2.2.1 (RVal.fair.below HR.out (H5.out _ hB8).1.1.1.1.2.2.2.2.2.2))).mono ?_
    rintro e wn ⟨rfl, hbn⟩
    replace hB8 := below_via hB8 hbn hB8.size
    clear hS hbn
    have hS := HSK.out _ hB8
    refine hK.out _ _ (fun _ => hS) ?_
    clear hK K
    try simp only [Act.put, List.getElem_toArray, List.getElem_cons_zero, List.getElem_cons_succ, List.setIfInBounds_toArray, List.set_cons_zero, List.set_cons_succ]
    refine late_take (i := 43) (v := ?_) rfl (by kernel_rfl) (fun _ _ _ h => h) ⟨by kernel_rfl, ?_⟩ hS ?_
    rotate_left
    · (intro w hSw; (try dsimp only at hSw); go_simp; first | done | with_reducible rfl)
    try simp only [Act.put, List.getElem_toArray, List.getElem_cons_zero, List.getElem_cons_succ, List.setIfInBounds_toArray, List.set_cons_zero, List.set_cons_succ]
    refine late_take (i := 44) (v := ?_) rfl (by kernel_rfl) (fun _ _ _ h => h) ⟨by kernel_rfl, ?_⟩ hS ?_
    rotate_left
    · (intro w hSw; (try dsimp only at hSw); go_simp; first | done | with_reducible rfl)
    try simp only [Act.put, List.getElem_toArray, List.getElem_cons_zero, List.getElem_cons_succ, List.setIfInBounds_toArray, List.set_cons_zero, List.set_cons_succ]
    refine late_take (i := 45) (v := ?_) rfl (by kernel_rfl) (fun _ _ _ h => h) ⟨by kernel_rfl, ?_⟩ hS ?_
    rotate_left
    · (intro w hSw; (try dsimp only at hSw); go_simp; first | done | with_reducible rfl)
    try simp only [Act.put, List.getElem_toArray, List.getElem_cons_zero, List.getElem_cons_succ, List.setIfInBounds_toArray, List.set_cons_zero, List.set_cons_succ]
    refine late_take (i := 46) (v := ?_) rfl (by kernel_rfl) (fun _ _ _ h => h) ⟨by kernel_rfl, ?_⟩ hS ?_
    rotate_left
    · (intro w hSw; (try dsimp only at hSw); go_simp; first | done | with_reducible rfl)
    try simp only [Act.put, List.getElem_toArray, List.getElem_cons_zero, List.getElem_cons_succ, List.setIfInBounds_toArray, List.set_cons_zero, List.set_cons_succ]
    refine late_one (i := 47) rfl (by kernel_rfl) (fun K hK => ?_)
    go_simp
    refine ((sameBook_anyR _ S (.slice A' b.length c') (.slice A b.length cap) b _ (H5.out _ hB8).1.1.1.1.2.2.2.2.1 ((RSl.fair RType.fair).below HB.out (H5.out _ hB8).1.1.1.1.2.2.2.2.2.2))).mono ?_
    rintro e wn ⟨rfl, hbn⟩
    replace hB8 := below_via hB8 hbn hB8.size
    clear hS hbn
    have hS := HSK.out _ hB8
    refine hK.out _ _ (fun _ => hS) ?_
    clear hK K
    try simp only [Act.put, List.getElem_toArray, List.getElem_cons_zero, List.getElem_cons_succ, List.setIfInBounds_toArray, List.set_cons_zero, List.set_cons_succ]
    refine late_take (i := 48) (v := ?_) rfl (by kernel_rfl) (fun _ _ _ h => h) ⟨by kernel_rfl, ?_⟩ hS ?_
    rotate_left
    · (intro w hSw; (try dsimp only at hSw); go_simp; first | done | with_reducible rfl)
    try simp only [Act.put, List.getElem_toArray, List.getElem_cons_zero, List.getElem_cons_succ, List.setIfInBounds_toArray, List.set_cons_zero, List.set_cons_succ]
    refine late_take (i := 49) (v := ?_) rfl (by kernel_rfl) (fun _ _ _ h => h) ⟨by kernel_rfl, ?_⟩ hS ?_
    rotate_left
    · (intro w hSw; (try dsimp only at hSw); go_simp; first | done | with_reducible rfl)
    try simp only [Act.put, List.getElem_toArray, List.getElem_cons_zero, List.getElem_cons_succ, List.setIfInBounds_toArray, List.set_cons_zero, List.set_cons_succ]
    refine late_one (i := 50) rfl (by kernel_rfl) (fun K hK => ?_)
    go_simp
    refine ((values_any _ (HW.out.below (H5.out _ hB8).1.1.1.1.2.2.2.2.2.2))).mono ?_
    rintro e wn ⟨rfl, hbn⟩
    replace hB8 := below_via hB8 hbn hB8.size
    clear hS hbn
    have hS := HSK.out _ hB8
    refine hK.out _ _ (fun _ => hS) ?_
    clear hK K
    try simp only [Act.put, List.getElem_toArray, List.getElem_cons_zero, List.getElem_cons_succ, List.setIfInBounds_toArray, List.set_cons_zero, List.set_cons_succ]
    refine late_take (i := 51) (v := ?_) rfl (by kernel_rfl) (fun _ _ _ h => h) ⟨by kernel_rfl, ?_⟩ hS ?_
    rotate_left
    · (intro w hSw; (try dsimp only at hSw); go_simp; first | done | with_reducible rfl)
    try simp only [Act.put, List.getElem_toArray, List.getElem_cons_zero, List.getElem_cons_succ, List.setIfInBounds_toArray, List.set_cons_zero, List.set_cons_succ]
    refine late_one (i := 52) rfl (by kernel_rfl) (fun K hK => ?_)
    go_simp
    refine hK.out _ _ (fun h => absurd h (by decide)) ?_
    clear hK K
    try simp only [Act.put, List.getElem_toArray, List.getElem_cons_zero, List.getElem_cons_succ, List.setIfInBounds_toArray, List.set_cons_zero, List.set_cons_succ]
    refine late_done (by kernel_rfl) ?_ _
    have hwF := (H5.out _ hB8).1.1.1.1.2.2.2.2.2.2
    clear hS HSK
    go_wp2_with fail
    go_ret
    exact ⟨rfl, hwF⟩
    --REST]
end Go.Proofs.YtmfohocejbgojaaDoor
