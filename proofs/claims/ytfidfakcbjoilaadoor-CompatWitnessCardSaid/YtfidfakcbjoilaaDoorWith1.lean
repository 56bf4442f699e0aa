/- The walks of compat.with and of its inner function. -/
import Derived.Test.YtfidfakcbjoilaaDoorProjRec
import Derived.Test.YtfidfakcbjoilaaDoorCompatLawW
import Derived.Test.YtfidfakcbjoilaaDoorValueRead
set_option linter.all false
set_option maxRecDepth 100000
set_option maxHeartbeats 8000000
namespace Go.Proofs.YtfidfakcbjoilaaDoor
open Go.RowKit
attribute [local go_sem ↓] Go.wp_at_zero Go.wp_at_succ
theorem keep_below {B : Nat} {w w' : World} (h : Below B w w') (hs : w.heap.size ≤ w'.heap.size) : Keep (fun y => y < B) w w' := ⟨hs, fun g hg _ => h.block g hg⟩
theorem with1_any (U SL : Nat → Prop) (base G BL BI BP : Nat) (A : Option Addr) (cap : Nat) (id : Int) (l lv : List ValueD) (ids : List Int) (vi vl : Value) (w : World) (hR : Rows2 U base w G vi vl ids lv) (zG : Box w G 28 [.int .i64 2, .int .i64 0, .string ⟨#[]⟩, vi, vl]) (zL : Box w BL 26 [.slice A l.length cap])
  (zI : Box w BI 3 [.int .i64 id]) (zP : Box w BP 4 [.bool false]) (hl : RSl 5 80 RVal SL w [.slice A l.length cap] l) (hSL : ∀ y, SL y → y < w.heap.size → y < G ∧ U y) (h1 : BL < G) (h2 : BI < G) (h3 : G < BP) (h4 : BP < base) (hUP : ¬ U BP)
  (n1 : ids.length ≤ 1000) (n2 : lv.length ≤ 1000) (n3 : l.length ≤ 1000) :
  Calls Tryd.prog 78 #[.pointer (some ⟨BL, 0, none⟩), .pointer (some ⟨G, 0, none⟩), .pointer (some ⟨BI, 0, none⟩), .pointer (some ⟨BP, 0, none⟩)] w (fun e w' => ∃ vi' vl', e = .returned (.tuple #[]) ∧ Rows2 U base w' G vi' vl' (ids ++ l.map fun _ => id) (lv ++ l) ∧
   Box w' G 28 [.int .i64 2, .int .i64 0, .string ⟨#[]⟩, vi', vl'] ∧ Box w' BP 4 [.bool true] ∧ Below G w w') := by
 have HL := Lib.hid hl
 have HSL := Lib.hid hSL
 have HUP := Lib.hid hUP
 have ZI := Lib.hid zI
 have c0 := zL.cell 0
 have lL := zL.lt
 have hbw := hR.hb
 have hG0 : G ≤ w.heap.size := Nat.le_of_lt zG.lt
 clear hl hSL zI hUP
 go_enter Tryd.func78, Tryd.ntmps78
 go_wp2_with fail
 clear c0 lL
 go_loopw [8] (fun i wr => ∃ (j : Nat) (vi vl : Value), i = .int .i64 j ∧ j ≤ l.length ∧ Rows2 U base wr G vi vl (ids ++ (l.take j).map fun _ => id) (lv ++ l.take j) ∧ Box wr G 28 [.int .i64 2, .int .i64 0, .string ⟨#[]⟩, vi, vl] ∧ Box wr BP 4 [.bool false] ∧ Below G w wr) (fun i _ => l.length - (intOf i).toNat)
 case atStart => exact ⟨0, vi, vl, rfl, Nat.zero_le _, by simpa using hR, zG, zP, Below.refl _ _⟩
 case round =>
  clear hR zG zP zL
  obtain ⟨j, vi, vl, rfl, hj, hR, zG, zP, hw⟩ := hrel
  have hsz := hw.size
  have zI := ZI.out.below hw h2
  by_cases hjl : j < l.length
  ·--[RND
   obtain ⟨g, o, rfl, hSg, hgw⟩ := HL.out.base (by omega)
   obtain ⟨es, _, hrx, hlies⟩ := HL.out.lies hjl
   have hgG := (HSL.out g hSg hgw).1
   have hlk := hlies.keep (keep_below hw hsz) hgG
   have ht1 : (l.take (j + 1)).map (fun _ => id) = (l.take j).map (fun _ => id) ++ [id] := by rw [List.take_succ_eq_append_getElem hjl, List.map_append]; rfl
   have ht2 : l.take (j + 1) = l.take j ++ [l[j]] := List.take_succ_eq_append_getElem hjl
   obtain ⟨x, hx⟩ : ∃ x, x = l[j] := ⟨_, rfl⟩
   rw [← hx] at hrx ht2
   obtain ⟨ai, hai⟩ : ∃ a, a = ids ++ (l.take j).map (fun _ => id) := ⟨_, rfl⟩
   obtain ⟨al, hal⟩ : ∃ a, a = lv ++ l.take j := ⟨_, rfl⟩
   have Hs1 : Hid (ids ++ (l.take (j + 1)).map (fun _ => id) = ai ++ [id]) := by show _ = _; rw [ht1, ← List.append_assoc, ← hai]
   have Hs2 : Hid (lv ++ l.take (j + 1) = al ++ [x]) := by show _ = _; rw [ht2, ← List.append_assoc, ← hal]
   have m1 : ai.length ≤ 2000 := by rw [hai, List.length_append, List.length_map, List.length_take]; omega
   have m2 : al.length ≤ 2000 := by rw [hal, List.length_append, List.length_take]; omega
   rw [← hai, ← hal] at hR
   obtain ⟨xk, xn, xs, xi, xl⟩ := x
   obtain ⟨E1, f1, E2, f2, rfl, _, _⟩ := hrx.parts
   have hXr : RVal (fun y => y < G ∧ U y) wr [.int .i64 xk, .int .i64 xn, .string xs, .slice E1 xi.length f1, .slice E2 xl.length f2] (.mk xk xn xs xi xl) := RVal.fair.keep (RVal.fair.mono hrx (T := fun y => y < G ∧ U y) (fun y hy hl => HSL.out y hy hl)) ((keep_below hw hsz).mono (fun y hy => hy.1))
   have t0 : wr.cell? ⟨g, o + j * 5, none⟩ = some (.int .i64 xk) := hlk.at_ 0 rfl
   have t1 : wr.cell? ⟨g, o + j * 5 + 1, none⟩ = some (.int .i64 xn) := hlk.at_ 1 rfl
   have t2 : wr.cell? ⟨g, o + j * 5 + 2, none⟩ = some (.string xs) := hlk.at_ 2 rfl
   have t3 : wr.cell? ⟨g, o + j * 5 + 3, none⟩ = some (.slice E1 xi.length f1) := hlk.at_ 3 rfl
   have t4 : wr.cell? ⟨g, o + j * 5 + 4, none⟩ = some (.slice E2 xl.length f2) := hlk.at_ 4 rfl
   have hgl : g < wr.heap.size := Nat.lt_of_lt_of_le hgw hsz
   have zQ : Box (wr.alloc (.cells #[.int .i64 xk, .int .i64 xn, .string xs, .slice E1 xi.length f1, .slice E2 xl.length f2] 28)) wr.heap.size 28 [.int .i64 xk, .int .i64 xn, .string xs, .slice E1 xi.length f1, .slice E2 xl.length f2] := Box.new wr _ _
   have hnQ : vl.ownBlock ≠ some wr.heap.size := fun e => by have := (hR.llt e).2; omega
   have hbQ := hR.hb
   have hap := hR.apart (w := wr.alloc (.cells #[.int .i64 xk, .int .i64 xn, .string xs, .slice E1 xi.length f1, .slice E2 xl.length f2] 28)) (RVal.fair.keep hXr (Keep.alloc _ _ _)) (fun y hy _ => ⟨.inr ⟨by have := hy.1; omega, by have := hy.1; omega⟩, hy.2⟩)
   replace hR := hR.alloc (.cells #[.int .i64 xk, .int .i64 xn, .string xs, .slice E1 xi.length f1, .slice E2 xl.length f2] 28)
   replace zG := zG.alloc (.cells #[.int .i64 xk, .int .i64 xn, .string xs, .slice E1 xi.length f1, .slice E2 xl.length f2] 28)
   replace zP := zP.alloc (.cells #[.int .i64 xk, .int .i64 xn, .string xs, .slice E1 xi.length f1, .slice E2 xl.length f2] 28)
   replace zI := zI.alloc (.cells #[.int .i64 xk, .int .i64 xn, .string xs, .slice E1 xi.length f1, .slice E2 xl.length f2] 28)
   replace hw := hw.alloc (Nat.le_trans hG0 hw.size) (.cells #[.int .i64 xk, .int .i64 xn, .string xs, .slice E1 xi.length f1, .slice E2 xl.length f2] 28)
   clear hrx hlies hlk ht1 ht2 hx hai hal hSg hgw hXr hgG
   go_upto_region 3 with fail
   clear t0 t1 t2 t3 t4 hgl
   generalize wr.heap.size = Q at zQ hnQ hbQ hsz ⊢
   generalize wr.alloc _ = wc at zQ zG zP zI hR hw hap ⊢
   have HXr := Lib.hid hap
   have hn1 : ∀ k, vi.ownBlock = some k → ¬ (fun y => Apart U G vi vl y ∧ y < wc.heap.size) k := fun k hk h => h.1.2.1 hk
   have hdr : wc.drew.heap.size = wc.heap.size := rfl
   have hGQ : G < Q := by omega
   clear hap
   have hS := trivial
   have HSK : Hid (∀ W', Box W' G 28 [.int .i64 2, .int .i64 0, .string ⟨#[]⟩, vi, vl] → Box W' BI 3 [.int .i64 id] → Box W' Q 28 [.int .i64 xk, .int .i64 xn, .string xs, .slice E1 xi.length f1, .slice E2 xl.length f2] → (fun W' => (W'.cell? ⟨G, 3, none⟩ = some vi ∧ W'.cell? ⟨G, 4, none⟩ = some vl) ∧ W'.cell? ⟨BI, 0, none⟩ = some (.int .i64 id) ∧ (W'.cell? ⟨Q, 0, none⟩ = some (.int .i64 xk) ∧ W'.cell? ⟨Q, 1, none⟩ = some (.int .i64 xn) ∧ W'.cell? ⟨Q, 2, none⟩ = some (.string xs) ∧ W'.cell? ⟨Q, 3, none⟩ = some (.slice E1 xi.length f1) ∧ W'.cell? ⟨Q, 4, none⟩ = some (.slice E2 xl.length f2))) W') := fun W' h1 h2 h3 => ⟨⟨h1.cell 3, h1.cell 4⟩, h2.cell 0, h3.five⟩
   replace hR := hR.drew
   replace zG := zG.drew
   replace zI := zI.drew
   replace zP := zP.drew
   (first | (replace zQ := zQ.drew) | (replace zQ := zQ.grown hg5 hnQ))
   replace hw := below_drew hw
   replace hS := HSK.out _ zG zI zQ
   refine late_start (fun W' => (W'.cell? ⟨G, 3, none⟩ = some vi ∧ W'.cell? ⟨G, 4, none⟩ = some vl) ∧ W'.cell? ⟨BI, 0, none⟩ = some (.int .i64 id) ∧ (W'.cell? ⟨Q, 0, none⟩ = some (.int .i64 xk) ∧ W'.cell? ⟨Q, 1, none⟩ = some (.int .i64 xn) ∧ W'.cell? ⟨Q, 2, none⟩ = some (.string xs) ∧ W'.cell? ⟨Q, 3, none⟩ = some (.slice E1 xi.length f1) ∧ W'.cell? ⟨Q, 4, none⟩ = some (.slice E2 xl.length f2))) 11 (by kernel_rfl) ?_
   refine tkL 0 hS ?_
   try simp only [pu]
   refine tkL 1 hS ?_
   try simp only [pu]
   refine tkL 2 hS ?_
   try simp only [pu]
   refine tkL 5 hS ?_
   try simp only [pu]
   refine tkL 6 hS ?_
   try simp only [pu]
   refine tkL 7 hS ?_
   try simp only [pu]
   refine late_two (i := 3) (j := 8) rfl rfl (by kernel_rfl) (fun K hK => ?_) (fun K hK => ?_)
   ·go_simp
    have hZ1 := Box.newB hw 3 [.int .i64 id]
    try simp only [World.size_alloc] at hZ1
    replace hR := hR.alloc (.cells #[.int .i64 id] 3)
    replace zG := zG.alloc (.cells #[.int .i64 id] 3)
    replace zI := zI.alloc (.cells #[.int .i64 id] 3)
    replace zP := zP.alloc (.cells #[.int .i64 id] 3)
    (first | (replace zQ := zQ.alloc (.cells #[.int .i64 id] 3)) | (replace zQ := zQ.grown hg5 hnQ))
    (first | (replace hZ2 := hZ2.alloc (.cells #[.int .i64 id] 3)) | skip)
    replace hw := hw.alloc (Nat.le_trans hG0 hw.size) (.cells #[.int .i64 id] 3)
    replace hS := HSK.out _ zG zI zQ
    refine hK.out _ _ (fun _ => hS) ?_
    clear hK K
    try simp only [pu]
    refine late_two (i := 4) (j := 8) rfl rfl (by kernel_rfl) (fun K hK => ?_) (fun K hK => ?_)
    ·refine step_append _ rfl (.tmp 13) (.tmp 15) rfl sl_ints RInt.fair rfl rfl hR.ids (Src.one (es := [.int .i64 id]) (y := id) rfl (Ones.of_all rfl) rfl hZ1.lies) (NoT.lt _) (by go_light; simp; omega) hR.hb ?_
     intro v1 wk1 ho1 hg1 hv1
     have hR' := hR.push_id ho1 hg1 hv1
     replace zG := zG.grownR hR.ids (by first | exact .inl (by go_light; omega) | exact .inr (by decide)) hg1
     replace zI := zI.grownR hR.ids (by first | exact .inl (by go_light; omega) | exact .inr (by decide)) hg1
     replace zP := zP.grownR hR.ids (by first | exact .inl (by go_light; omega) | exact .inr (by decide)) hg1
     (first | (replace zQ := zQ.grownR hR.ids (by first | exact .inl (by go_light; omega) | exact .inr (by decide)) hg1) | (replace zQ := zQ.grown hg5 hnQ))
     (first | (replace hZ2 := hZ2.grownR hR.ids (.inr (by decide)) hg1) | skip)
     replace hw := below_grown hw hg1 (Nat.le_trans hG0 hw.size) (fun g' h => by go_light; have := (hR.ilt h).1; omega)
     replace hR := hR'
     clear hR'
     replace hS := HSK.out _ zG zI zQ
     refine hK.out _ _ (fun _ => hS) ?_
     clear hK K
     try simp only [pu]
     refine tkL 10 hS ?_
     try simp only [pu]
     refine late_one (i := 8) rfl (by kernel_rfl) (fun K hK => ?_)
     go_simp
     have hZ2 := Box.newB hw 28 [.int .i64 xk, .int .i64 xn, .string xs, .slice E1 xi.length f1, .slice E2 xl.length f2]
     try simp only [World.size_alloc] at hZ2
     replace hR := hR.alloc (.cells [.int .i64 xk, .int .i64 xn, .string xs, .slice E1 xi.length f1, .slice E2 xl.length f2].toArray 28)
     replace zG := zG.alloc (.cells [.int .i64 xk, .int .i64 xn, .string xs, .slice E1 xi.length f1, .slice E2 xl.length f2].toArray 28)
     replace zI := zI.alloc (.cells [.int .i64 xk, .int .i64 xn, .string xs, .slice E1 xi.length f1, .slice E2 xl.length f2].toArray 28)
     replace zP := zP.alloc (.cells [.int .i64 xk, .int .i64 xn, .string xs, .slice E1 xi.length f1, .slice E2 xl.length f2].toArray 28)
     (first | (replace zQ := zQ.alloc (.cells [.int .i64 xk, .int .i64 xn, .string xs, .slice E1 xi.length f1, .slice E2 xl.length f2].toArray 28)) | (replace zQ := zQ.grown hg5 hnQ))
     (first | (replace hZ1 := hZ1.alloc (.cells [.int .i64 xk, .int .i64 xn, .string xs, .slice E1 xi.length f1, .slice E2 xl.length f2].toArray 28)) | skip)
     replace hw := hw.alloc (Nat.le_trans hG0 hw.size) (.cells [.int .i64 xk, .int .i64 xn, .string xs, .slice E1 xi.length f1, .slice E2 xl.length f2].toArray 28)
     replace hS := HSK.out _ zG zI zQ
     refine hK.out _ _ (fun _ => hS) ?_
     clear hK K
     try simp only [pu]
     refine late_one (i := 9) rfl (by kernel_rfl) (fun K hK => ?_)
     refine step_append _ rfl (.tmp 18) (.tmp 20) rfl sl_vals RVal.fair rfl rfl hR.lrow (Src.one (es := [.int .i64 xk, .int .i64 xn, .string xs, .slice E1 xi.length f1, .slice E2 xl.length f2]) (y := ValueD.mk xk xn xs xi xl) rfl (Ones.of_all rfl) (hR.apart2 (RVal.fair.keep HXr.out (by first | exact (((Keep.drew _ _).trans (Keep.alloc _ _ _)).trans (Keep.of_grown hg1 hn1)).trans (Keep.alloc _ _ _) | exact (((Keep.drew _ _).trans (Keep.alloc _ _ _)).trans (Keep.alloc _ _ _)).trans (Keep.of_grown hg1 hn1))) ?ap) hZ2.lies) (fun _ h => h.2) (by go_light; simp; omega) hR.hb ?_
     case ap =>
      rintro y ⟨hy1, hy2⟩
      refine ⟨hy1.1, fun e => ?_, hy1.2.2.1, hy1.2.2.2⟩
      rcases hv1 with h | h
      ·exact hy1.2.1 (h ▸ e)
      ·rw [h] at e
       have e' := Option.some.inj e
       simp at e'
       go_light
       omega
     intro v5 w5 ho5 hg5 hv5
     have hR' := hR.push_l ho5 hg5 hv5
     replace zG := zG.grownR hR.l (by first | exact .inl (by go_light; omega) | exact .inr (by decide)) hg5
     replace zI := zI.grownR hR.l (by first | exact .inl (by go_light; omega) | exact .inr (by decide)) hg5
     replace zP := zP.grownR hR.l (by first | exact .inl (by go_light; omega) | exact .inr (by decide)) hg5
     (first | (replace zQ := zQ.grownR hR.l (by first | exact .inl (by go_light; omega) | exact .inr (by decide)) hg5) | (replace zQ := zQ.grown hg5 hnQ))
     replace hw := below_grown hw hg5 (Nat.le_trans hG0 hw.size) (fun g' h => by go_light; have := (hR.llt h).1; omega)
     replace hR := hR'
     clear hR'
     replace hS := HSK.out _ zG zI zQ
     have fz3 := zG.frozen 3
     have cz3 := zG.cell 3
     have fz4 := zG.frozen 4
     have cz4 := zG.cell 4
     have lz := zG.lt
     simp only [List.getElem?_cons_zero, List.getElem?_cons_succ] at cz3 cz4
     obtain ⟨R1, p1, rfl, _⟩ := hR.ids.form
     obtain ⟨R2, p2, rfl, _⟩ := hR.l.form
     refine hK.out _ _ (fun _ => hS) ?_
     clear hK K
     try simp only [pu]
     refine late_one (i := 11) rfl (by kernel_rfl) (fun K hK => ?_)
     go_simp
     refine hK.out _ _ (fun h => absurd h (by decide)) ?_
     clear hK K
     try simp only [pu]
     refine late_one (i := 12) rfl (by kernel_rfl) (fun K hK => ?_)
     go_simp
     refine hK.out _ _ (fun h => absurd h (by decide)) ?_
     clear hK K
     try simp only [pu]
     refine late_one (i := 13) rfl (by kernel_rfl) (fun K hK => ?_)
     go_simp
     refine hK.out _ _ (fun h => absurd h (by decide)) ?_
     clear hK K
     try simp only [pu]
     refine late_done (by kernel_rfl) ?_ _
     simp only [List.length_append, List.length_map, List.length_cons, List.length_nil, Nat.zero_add] at hR
     replace hR := (hR.setCell 3 (.slice R1 (ai.length + 1) p1)).setCell 4 (.slice R2 (al.length + 1) p2)
     replace zG := (zG.set_ 3 (.slice R1 (ai.length + 1) p1)).set_ 4 (.slice R2 (al.length + 1) p2)
     simp only [List.set_cons_zero, List.set_cons_succ, List.length_append, List.length_map, List.length_cons, List.length_nil, Nat.zero_add] at zG
     replace zI := zI.far (p := ⟨G, 3, none⟩) (by first | (simp; done) | (simp; omega)) (.slice R1 (ai.length + 1) p1)
     replace zP := zP.far (p := ⟨G, 3, none⟩) (by first | (simp; done) | (simp; omega)) (.slice R1 (ai.length + 1) p1)
     replace zQ := zQ.far (p := ⟨G, 3, none⟩) (by first | (simp; done) | (simp; omega)) (.slice R1 (ai.length + 1) p1)
     replace zI := zI.far (p := ⟨G, 4, none⟩) (by first | (simp; done) | (simp; omega)) (.slice R2 (al.length + 1) p2)
     replace zP := zP.far (p := ⟨G, 4, none⟩) (by first | (simp; done) | (simp; omega)) (.slice R2 (al.length + 1) p2)
     replace zQ := zQ.far (p := ⟨G, 4, none⟩) (by first | (simp; done) | (simp; omega)) (.slice R2 (al.length + 1) p2)
     replace hw := (hw.setCell (p := ⟨G, 3, none⟩) (by first | (simp; done) | (simp; omega)) (.slice R1 (ai.length + 1) p1)).setCell (p := ⟨G, 4, none⟩) (by first | (simp; done) | (simp; omega)) (.slice R2 (al.length + 1) p2)
     clear hS fz3 cz3 fz4 cz4 lz hg5 hv5 ho5 hg1 hv1 ho1
     go_wp2_with fail
     go_roundw
     case rel => exact ⟨j + 1, _, _, by go_num, by go_light; omega, by rw [Hs1.out, Hs2.out]; simpa using hR, zG, zP, hw⟩
     case measure => go_light; simp [intOf]; omega
    ·go_simp
     have hZ2 := Box.newB hw 28 [.int .i64 xk, .int .i64 xn, .string xs, .slice E1 xi.length f1, .slice E2 xl.length f2]
     try simp only [World.size_alloc] at hZ2
     replace hR := hR.alloc (.cells [.int .i64 xk, .int .i64 xn, .string xs, .slice E1 xi.length f1, .slice E2 xl.length f2].toArray 28)
     replace zG := zG.alloc (.cells [.int .i64 xk, .int .i64 xn, .string xs, .slice E1 xi.length f1, .slice E2 xl.length f2].toArray 28)
     replace zI := zI.alloc (.cells [.int .i64 xk, .int .i64 xn, .string xs, .slice E1 xi.length f1, .slice E2 xl.length f2].toArray 28)
     replace zP := zP.alloc (.cells [.int .i64 xk, .int .i64 xn, .string xs, .slice E1 xi.length f1, .slice E2 xl.length f2].toArray 28)
     (first | (replace zQ := zQ.alloc (.cells [.int .i64 xk, .int .i64 xn, .string xs, .slice E1 xi.length f1, .slice E2 xl.length f2].toArray 28)) | (replace zQ := zQ.grown hg5 hnQ))
     (first | (replace hZ1 := hZ1.alloc (.cells [.int .i64 xk, .int .i64 xn, .string xs, .slice E1 xi.length f1, .slice E2 xl.length f2].toArray 28)) | skip)
     replace hw := hw.alloc (Nat.le_trans hG0 hw.size) (.cells [.int .i64 xk, .int .i64 xn, .string xs, .slice E1 xi.length f1, .slice E2 xl.length f2].toArray 28)
     replace hS := HSK.out _ zG zI zQ
     refine hK.out _ _ (fun _ => hS) ?_
     clear hK K
     try simp only [pu]
     refine late_one (i := 4) rfl (by kernel_rfl) (fun K hK => ?_)
     refine step_append _ rfl (.tmp 13) (.tmp 15) rfl sl_ints RInt.fair rfl rfl hR.ids (Src.one (es := [.int .i64 id]) (y := id) rfl (Ones.of_all rfl) rfl hZ1.lies) (NoT.lt _) (by go_light; simp; omega) hR.hb ?_
     intro v1 wk1 ho1 hg1 hv1
     have hR' := hR.push_id ho1 hg1 hv1
     replace zG := zG.grownR hR.ids (by first | exact .inl (by go_light; omega) | exact .inr (by decide)) hg1
     replace zI := zI.grownR hR.ids (by first | exact .inl (by go_light; omega) | exact .inr (by decide)) hg1
     replace zP := zP.grownR hR.ids (by first | exact .inl (by go_light; omega) | exact .inr (by decide)) hg1
     (first | (replace zQ := zQ.grownR hR.ids (by first | exact .inl (by go_light; omega) | exact .inr (by decide)) hg1) | (replace zQ := zQ.grown hg5 hnQ))
     (first | (replace hZ2 := hZ2.grownR hR.ids (.inr (by decide)) hg1) | skip)
     replace hw := below_grown hw hg1 (Nat.le_trans hG0 hw.size) (fun g' h => by go_light; have := (hR.ilt h).1; omega)
     replace hR := hR'
     clear hR'
     replace hS := HSK.out _ zG zI zQ
     refine hK.out _ _ (fun _ => hS) ?_
     clear hK K
     try simp only [pu]
     refine tkL 10 hS ?_
     try simp only [pu]
     refine late_one (i := 9) rfl (by kernel_rfl) (fun K hK => ?_)
     refine step_append _ rfl (.tmp 18) (.tmp 20) rfl sl_vals RVal.fair rfl rfl hR.lrow (Src.one (es := [.int .i64 xk, .int .i64 xn, .string xs, .slice E1 xi.length f1, .slice E2 xl.length f2]) (y := ValueD.mk xk xn xs xi xl) rfl (Ones.of_all rfl) (hR.apart2 (RVal.fair.keep HXr.out (by first | exact (((Keep.drew _ _).trans (Keep.alloc _ _ _)).trans (Keep.of_grown hg1 hn1)).trans (Keep.alloc _ _ _) | exact (((Keep.drew _ _).trans (Keep.alloc _ _ _)).trans (Keep.alloc _ _ _)).trans (Keep.of_grown hg1 hn1))) ?ap) hZ2.lies) (fun _ h => h.2) (by go_light; simp; omega) hR.hb ?_
     case ap =>
      rintro y ⟨hy1, hy2⟩
      refine ⟨hy1.1, fun e => ?_, hy1.2.2.1, hy1.2.2.2⟩
      rcases hv1 with h | h
      ·exact hy1.2.1 (h ▸ e)
      ·rw [h] at e
       have e' := Option.some.inj e
       simp at e'
       go_light
       omega
     intro v5 w5 ho5 hg5 hv5
     have hR' := hR.push_l ho5 hg5 hv5
     replace zG := zG.grownR hR.l (by first | exact .inl (by go_light; omega) | exact .inr (by decide)) hg5
     replace zI := zI.grownR hR.l (by first | exact .inl (by go_light; omega) | exact .inr (by decide)) hg5
     replace zP := zP.grownR hR.l (by first | exact .inl (by go_light; omega) | exact .inr (by decide)) hg5
     (first | (replace zQ := zQ.grownR hR.l (by first | exact .inl (by go_light; omega) | exact .inr (by decide)) hg5) | (replace zQ := zQ.grown hg5 hnQ))
     replace hw := below_grown hw hg5 (Nat.le_trans hG0 hw.size) (fun g' h => by go_light; have := (hR.llt h).1; omega)
     replace hR := hR'
     clear hR'
     replace hS := HSK.out _ zG zI zQ
     have fz3 := zG.frozen 3
     have cz3 := zG.cell 3
     have fz4 := zG.frozen 4
     have cz4 := zG.cell 4
     have lz := zG.lt
     simp only [List.getElem?_cons_zero, List.getElem?_cons_succ] at cz3 cz4
     obtain ⟨R1, p1, rfl, _⟩ := hR.ids.form
     obtain ⟨R2, p2, rfl, _⟩ := hR.l.form
     refine hK.out _ _ (fun _ => hS) ?_
     clear hK K
     try simp only [pu]
     refine late_one (i := 11) rfl (by kernel_rfl) (fun K hK => ?_)
     go_simp
     refine hK.out _ _ (fun h => absurd h (by decide)) ?_
     clear hK K
     try simp only [pu]
     refine late_one (i := 12) rfl (by kernel_rfl) (fun K hK => ?_)
     go_simp
     refine hK.out _ _ (fun h => absurd h (by decide)) ?_
     clear hK K
     try simp only [pu]
     refine late_one (i := 13) rfl (by kernel_rfl) (fun K hK => ?_)
     go_simp
     refine hK.out _ _ (fun h => absurd h (by decide)) ?_
     clear hK K
     try simp only [pu]
     refine late_done (by kernel_rfl) ?_ _
     simp only [List.length_append, List.length_map, List.length_cons, List.length_nil, Nat.zero_add] at hR
     replace hR := (hR.setCell 3 (.slice R1 (ai.length + 1) p1)).setCell 4 (.slice R2 (al.length + 1) p2)
     replace zG := (zG.set_ 3 (.slice R1 (ai.length + 1) p1)).set_ 4 (.slice R2 (al.length + 1) p2)
     simp only [List.set_cons_zero, List.set_cons_succ, List.length_append, List.length_map, List.length_cons, List.length_nil, Nat.zero_add] at zG
     replace zI := zI.far (p := ⟨G, 3, none⟩) (by first | (simp; done) | (simp; omega)) (.slice R1 (ai.length + 1) p1)
     replace zP := zP.far (p := ⟨G, 3, none⟩) (by first | (simp; done) | (simp; omega)) (.slice R1 (ai.length + 1) p1)
     replace zQ := zQ.far (p := ⟨G, 3, none⟩) (by first | (simp; done) | (simp; omega)) (.slice R1 (ai.length + 1) p1)
     replace zI := zI.far (p := ⟨G, 4, none⟩) (by first | (simp; done) | (simp; omega)) (.slice R2 (al.length + 1) p2)
     replace zP := zP.far (p := ⟨G, 4, none⟩) (by first | (simp; done) | (simp; omega)) (.slice R2 (al.length + 1) p2)
     replace zQ := zQ.far (p := ⟨G, 4, none⟩) (by first | (simp; done) | (simp; omega)) (.slice R2 (al.length + 1) p2)
     replace hw := (hw.setCell (p := ⟨G, 3, none⟩) (by first | (simp; done) | (simp; omega)) (.slice R1 (ai.length + 1) p1)).setCell (p := ⟨G, 4, none⟩) (by first | (simp; done) | (simp; omega)) (.slice R2 (al.length + 1) p2)
     clear hS fz3 cz3 fz4 cz4 lz hg5 hv5 ho5 hg1 hv1 ho1
     go_wp2_with fail
     go_roundw
     case rel => exact ⟨j + 1, _, _, by go_num, by go_light; omega, by rw [Hs1.out, Hs2.out]; simpa using hR, zG, zP, hw⟩
     case measure => go_light; simp [intOf]; omega
   ·go_simp
    have hZ2 := Box.newB hw 28 [.int .i64 xk, .int .i64 xn, .string xs, .slice E1 xi.length f1, .slice E2 xl.length f2]
    try simp only [World.size_alloc] at hZ2
    replace hR := hR.alloc (.cells [.int .i64 xk, .int .i64 xn, .string xs, .slice E1 xi.length f1, .slice E2 xl.length f2].toArray 28)
    replace zG := zG.alloc (.cells [.int .i64 xk, .int .i64 xn, .string xs, .slice E1 xi.length f1, .slice E2 xl.length f2].toArray 28)
    replace zI := zI.alloc (.cells [.int .i64 xk, .int .i64 xn, .string xs, .slice E1 xi.length f1, .slice E2 xl.length f2].toArray 28)
    replace zP := zP.alloc (.cells [.int .i64 xk, .int .i64 xn, .string xs, .slice E1 xi.length f1, .slice E2 xl.length f2].toArray 28)
    (first | (replace zQ := zQ.alloc (.cells [.int .i64 xk, .int .i64 xn, .string xs, .slice E1 xi.length f1, .slice E2 xl.length f2].toArray 28)) | (replace zQ := zQ.grown hg5 hnQ))
    (first | (replace hZ1 := hZ1.alloc (.cells [.int .i64 xk, .int .i64 xn, .string xs, .slice E1 xi.length f1, .slice E2 xl.length f2].toArray 28)) | skip)
    replace hw := hw.alloc (Nat.le_trans hG0 hw.size) (.cells [.int .i64 xk, .int .i64 xn, .string xs, .slice E1 xi.length f1, .slice E2 xl.length f2].toArray 28)
    replace hS := HSK.out _ zG zI zQ
    refine hK.out _ _ (fun _ => hS) ?_
    clear hK K
    try simp only [pu]
    refine late_one (i := 3) rfl (by kernel_rfl) (fun K hK => ?_)
    go_simp
    have hZ1 := Box.newB hw 3 [.int .i64 id]
    try simp only [World.size_alloc] at hZ1
    replace hR := hR.alloc (.cells #[.int .i64 id] 3)
    replace zG := zG.alloc (.cells #[.int .i64 id] 3)
    replace zI := zI.alloc (.cells #[.int .i64 id] 3)
    replace zP := zP.alloc (.cells #[.int .i64 id] 3)
    (first | (replace zQ := zQ.alloc (.cells #[.int .i64 id] 3)) | (replace zQ := zQ.grown hg5 hnQ))
    (first | (replace hZ2 := hZ2.alloc (.cells #[.int .i64 id] 3)) | skip)
    replace hw := hw.alloc (Nat.le_trans hG0 hw.size) (.cells #[.int .i64 id] 3)
    replace hS := HSK.out _ zG zI zQ
    refine hK.out _ _ (fun _ => hS) ?_
    clear hK K
    try simp only [pu]
    refine late_one (i := 4) rfl (by kernel_rfl) (fun K hK => ?_)
    refine step_append _ rfl (.tmp 13) (.tmp 15) rfl sl_ints RInt.fair rfl rfl hR.ids (Src.one (es := [.int .i64 id]) (y := id) rfl (Ones.of_all rfl) rfl hZ1.lies) (NoT.lt _) (by go_light; simp; omega) hR.hb ?_
    intro v1 wk1 ho1 hg1 hv1
    have hR' := hR.push_id ho1 hg1 hv1
    replace zG := zG.grownR hR.ids (by first | exact .inl (by go_light; omega) | exact .inr (by decide)) hg1
    replace zI := zI.grownR hR.ids (by first | exact .inl (by go_light; omega) | exact .inr (by decide)) hg1
    replace zP := zP.grownR hR.ids (by first | exact .inl (by go_light; omega) | exact .inr (by decide)) hg1
    (first | (replace zQ := zQ.grownR hR.ids (by first | exact .inl (by go_light; omega) | exact .inr (by decide)) hg1) | (replace zQ := zQ.grown hg5 hnQ))
    (first | (replace hZ2 := hZ2.grownR hR.ids (.inr (by decide)) hg1) | skip)
    replace hw := below_grown hw hg1 (Nat.le_trans hG0 hw.size) (fun g' h => by go_light; have := (hR.ilt h).1; omega)
    replace hR := hR'
    clear hR'
    replace hS := HSK.out _ zG zI zQ
    refine hK.out _ _ (fun _ => hS) ?_
    clear hK K
    try simp only [pu]
    refine tkL 10 hS ?_
    try simp only [pu]
    refine late_one (i := 9) rfl (by kernel_rfl) (fun K hK => ?_)
    refine step_append _ rfl (.tmp 18) (.tmp 20) rfl sl_vals RVal.fair rfl rfl hR.lrow (Src.one (es := [.int .i64 xk, .int .i64 xn, .string xs, .slice E1 xi.length f1, .slice E2 xl.length f2]) (y := ValueD.mk xk xn xs xi xl) rfl (Ones.of_all rfl) (hR.apart2 (RVal.fair.keep HXr.out (by first | exact (((Keep.drew _ _).trans (Keep.alloc _ _ _)).trans (Keep.of_grown hg1 hn1)).trans (Keep.alloc _ _ _) | exact (((Keep.drew _ _).trans (Keep.alloc _ _ _)).trans (Keep.alloc _ _ _)).trans (Keep.of_grown hg1 hn1))) ?ap) hZ2.lies) (fun _ h => h.2) (by go_light; simp; omega) hR.hb ?_
    case ap =>
     rintro y ⟨hy1, hy2⟩
     refine ⟨hy1.1, fun e => ?_, hy1.2.2.1, hy1.2.2.2⟩
     rcases hv1 with h | h
     ·exact hy1.2.1 (h ▸ e)
     ·rw [h] at e
      have e' := Option.some.inj e
      simp at e'
      go_light
      omega
    intro v5 w5 ho5 hg5 hv5
    have hR' := hR.push_l ho5 hg5 hv5
    replace zG := zG.grownR hR.l (by first | exact .inl (by go_light; omega) | exact .inr (by decide)) hg5
    replace zI := zI.grownR hR.l (by first | exact .inl (by go_light; omega) | exact .inr (by decide)) hg5
    replace zP := zP.grownR hR.l (by first | exact .inl (by go_light; omega) | exact .inr (by decide)) hg5
    (first | (replace zQ := zQ.grownR hR.l (by first | exact .inl (by go_light; omega) | exact .inr (by decide)) hg5) | (replace zQ := zQ.grown hg5 hnQ))
    replace hw := below_grown hw hg5 (Nat.le_trans hG0 hw.size) (fun g' h => by go_light; have := (hR.llt h).1; omega)
    replace hR := hR'
    clear hR'
    replace hS := HSK.out _ zG zI zQ
    have fz3 := zG.frozen 3
    have cz3 := zG.cell 3
    have fz4 := zG.frozen 4
    have cz4 := zG.cell 4
    have lz := zG.lt
    simp only [List.getElem?_cons_zero, List.getElem?_cons_succ] at cz3 cz4
    obtain ⟨R1, p1, rfl, _⟩ := hR.ids.form
    obtain ⟨R2, p2, rfl, _⟩ := hR.l.form
    refine hK.out _ _ (fun _ => hS) ?_
    clear hK K
    try simp only [pu]
    refine late_one (i := 11) rfl (by kernel_rfl) (fun K hK => ?_)
    go_simp
    refine hK.out _ _ (fun h => absurd h (by decide)) ?_
    clear hK K
    try simp only [pu]
    refine late_one (i := 12) rfl (by kernel_rfl) (fun K hK => ?_)
    go_simp
    refine hK.out _ _ (fun h => absurd h (by decide)) ?_
    clear hK K
    try simp only [pu]
    refine late_one (i := 13) rfl (by kernel_rfl) (fun K hK => ?_)
    go_simp
    refine hK.out _ _ (fun h => absurd h (by decide)) ?_
    clear hK K
    try simp only [pu]
    refine late_done (by kernel_rfl) ?_ _
    simp only [List.length_append, List.length_map, List.length_cons, List.length_nil, Nat.zero_add] at hR
    replace hR := (hR.setCell 3 (.slice R1 (ai.length + 1) p1)).setCell 4 (.slice R2 (al.length + 1) p2)
    replace zG := (zG.set_ 3 (.slice R1 (ai.length + 1) p1)).set_ 4 (.slice R2 (al.length + 1) p2)
    simp only [List.set_cons_zero, List.set_cons_succ, List.length_append, List.length_map, List.length_cons, List.length_nil, Nat.zero_add] at zG
    replace zI := zI.far (p := ⟨G, 3, none⟩) (by first | (simp; done) | (simp; omega)) (.slice R1 (ai.length + 1) p1)
    replace zP := zP.far (p := ⟨G, 3, none⟩) (by first | (simp; done) | (simp; omega)) (.slice R1 (ai.length + 1) p1)
    replace zQ := zQ.far (p := ⟨G, 3, none⟩) (by first | (simp; done) | (simp; omega)) (.slice R1 (ai.length + 1) p1)
    replace zI := zI.far (p := ⟨G, 4, none⟩) (by first | (simp; done) | (simp; omega)) (.slice R2 (al.length + 1) p2)
    replace zP := zP.far (p := ⟨G, 4, none⟩) (by first | (simp; done) | (simp; omega)) (.slice R2 (al.length + 1) p2)
    replace zQ := zQ.far (p := ⟨G, 4, none⟩) (by first | (simp; done) | (simp; omega)) (.slice R2 (al.length + 1) p2)
    replace hw := (hw.setCell (p := ⟨G, 3, none⟩) (by first | (simp; done) | (simp; omega)) (.slice R1 (ai.length + 1) p1)).setCell (p := ⟨G, 4, none⟩) (by first | (simp; done) | (simp; omega)) (.slice R2 (al.length + 1) p2)
    clear hS fz3 cz3 fz4 cz4 lz hg5 hv5 ho5 hg1 hv1 ho1
    go_wp2_with fail
    go_roundw
    case rel => exact ⟨j + 1, _, _, by go_num, by go_light; omega, by rw [Hs1.out, Hs2.out]; simpa using hR, zG, zP, hw⟩
    case measure => go_light; simp [intOf]; omega
  ·--[END
   have hfull : l.take j = l := List.take_of_length_le (by omega)
   rw [hfull] at hR
   have cP := zP.cell 0
   have fP := zP.frozen 0
   have lP := zP.lt
   have zG2 := zG.far (p := ⟨BP, 0, none⟩) (by show G ≠ BP; omega) (.bool true)
   have zP2 := zP.set_ 0 (.bool true)
   have hR2 := hR.far (p := ⟨BP, 0, none⟩) (hR.nei h4) (hR.nel h4) HUP.out (.bool true)
   have hw2 := hw.setCell (p := ⟨BP, 0, none⟩) (by show G ≤ BP; omega) (.bool true)
   have Hfin := Lib.hid (And.intro hR2 (And.intro zG2 (And.intro zP2 hw2)))
   clear hR zG zP hw zG2 zP2 hR2 hw2 hfull
   go_wp2_with fail
   refine bodyPost_end (results_none rfl _ _ _) rfl ?_
   exact ⟨vi, vl, rfl, Hfin.out.1, Hfin.out.2.1, Hfin.out.2.2.1, Hfin.out.2.2.2⟩
end Go.Proofs.YtfidfakcbjoilaaDoor
