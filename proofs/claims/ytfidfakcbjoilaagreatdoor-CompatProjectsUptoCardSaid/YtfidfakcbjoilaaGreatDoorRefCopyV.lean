/- The walk of the document's own CopyValue. -/
import Derived.Test.YtfidfakcbjoilaaGreatDoorRefCopy
import Derived.Test.YtfidfakcbjoilaaGreatDoorValueBuilt
set_option linter.all false
set_option maxRecDepth 100000
set_option maxHeartbeats 8000000
namespace Go.Proofs.YtfidfakcbjoilaaGreatDoor
open Go.RowKit
theorem copyV_results {W : World} {a : Act} {g : Nat} {c0 c1 c2 c3 c4 : Value} (hb : Box W g 37 [c0, c1, c2, c3, c4]) (h2 : a.tmps.getD 2 undef = .pointer (some ⟨g, 0, none⟩)) :
  (results Tryz.f12 a.tmps).run Tryz.prog W = .ok (.agg #[c0, c1, c2, c3, c4]) W := by
 obtain ⟨e0, e1, e2, e3, e4⟩ := hb.five
 simp only [Array.getD_eq_getD_getElem?] at h2
 simp [results, Tryz.results12, go_sem, h2, e0, e1, e2, e3, e4]
def CopyVPost (w : World) (v : ValueD) (e : Ending) (w' : World) : Prop := ∃ cs : List Value, e = .returned (.agg cs.toArray) ∧ RVal (New w) w' cs v ∧ Below w.heap.size w w'
def CopyVAt (d : Nat) : Prop := ∀ (S : Nat → Prop) (cs : List Value) (v : ValueD) (w : World), depthV v ≤ d → RVal S w cs v →
  Calls Tryz.prog 12 #[.agg cs.toArray] w (CopyVPost w v)
theorem copyV_succ (d : Nat) (IH0 : CopyVAt d) : CopyVAt (d + 1) := by
 intro S cs v w hd hr
 obtain ⟨kind, n, s, ids, l⟩ := v
 obtain ⟨I1, d1, I2, d2, rfl, hi, hl⟩ := hr.parts
 obtain ⟨_, _, _, hic, hib⟩ := hi.form
 obtain ⟨_, _, _, hlc, hlb⟩ := hl.form
 have HI := Lib.hid hi
 have HL := Lib.hid hl
 have IH := Lib.hid IH0
 rw [depthV] at hd
 have HD := Lib.hid (fun x (hx : x ∈ l) => (show depthV x ≤ d from by have := depthL_mem' hx; omega))
 obtain ⟨x1, x2, x3⟩ := boxes2 w [.int .i64 kind, .int .i64 n, .string s, .slice I1 ids.length d1, .slice I2 l.length d2] [.int .i64 0, .int .i64 0, .string ⟨#[]⟩, .slice none 0 0, .slice none 0 0] 37 37
 have his := (RSl.fair RInt.fair).below HI.out x3
 have hz0 : w.heap.size + 1 + 1 ≤ ((w.alloc (.cells ([.int .i64 kind, .int .i64 n, .string s, .slice I1 ids.length d1, .slice I2 l.length d2]).toArray 37)).alloc (.cells ([.int .i64 0, .int .i64 0, .string ⟨#[]⟩, .slice none 0 0, .slice none 0 0]).toArray 37)).heap.size := by simp
 obtain ⟨u0, u1, u2, u3, u4⟩ := x1.five
 have hl1 := x1.lt
 clear hr hi hl hd
 go_enter Tryz.func12, Tryz.ntmps12
 go_wp2_with (at_builtin; go_must (refine wl_append _ rfl (.const (.slice none 0 0)) (.tmp 7) rfl sl_ints RInt.fair rfl rfl (Own.nil_ (w.heap.size + 1 + 1) _ _ _ NoT _) (Src.flat (his.src (by decide) RInt.ones)) (NoT.lt _) ?_ ?_ ?_))
 ·simp; omega
 ·exact hz0
 intro v1 w1 ho1 hg1 hv1
 try rw [List.nil_append] at ho1
 have gw1 := below_grown (Below.refl _ _) hg1 (Nat.le_refl _) (fun g h => by cases h)
 have y1 := x1.below gw1 x1.lt
 have y2 := x2.below gw1 x2.lt
 have hw1 := below_via x3 gw1 x3.size
 have hz1 := Nat.le_trans hz0 gw1.size
 obtain ⟨P1, p1, rfl, hpc⟩ := ho1.form
 have hR : Rows2 (fun y => w.heap.size + 1 + 1 ≤ y) (w.heap.size + 1 + 1) w1 w.heap.size (.slice P1 ids.length p1) (.slice none 0 0) ids [] := ⟨by omega, hz1, ho1, Own.nil_ _ _ _ _ _ _, by simp [Value.ownBlock]⟩
 have m3 := y1.cell 3
 have m4 := y1.cell 4
 have f3 := y1.frozen 3
 have f4 := y1.frozen 4
 have hl2 := y1.lt
 simp only [List.getElem?_cons_zero, List.getElem?_cons_succ] at m3 m4
 clear his hz0 u0 u1 u2 u3 u4 hl1 x1 x2 x3 ho1 hg1 hv1 gw1
 go_upto_region 2 with fail
 replace hR := hR.setCell 3 (.slice P1 ids.length p1)
 replace y1 := y1.set_ 3 (.slice P1 ids.length p1)
 simp only [List.set_cons_zero, List.set_cons_succ] at y1
 replace y2 := y2.far (p := ⟨w.heap.size, 3, none⟩) (by show w.heap.size + 1 ≠ w.heap.size; omega) (.slice P1 ids.length p1)
 replace hw1 := hw1.setCell (p := ⟨w.heap.size, 3, none⟩) (Nat.le_refl _) (.slice P1 ids.length p1)
 generalize w1.setCell ⟨w.heap.size, 3, none⟩ (.slice P1 ids.length p1) = WA at *
 clear m3 m4 f3 f4 hl2 hz1
 have m4 := y1.cell 4
 have f4 := y1.frozen 4
 have hl2 := y1.lt
 simp only [List.getElem?_cons_zero, List.getElem?_cons_succ] at m4
 go_wp2_with fail
 clear m4 f4 hl2
 replace hR := hR.setCell 4 (.slice none 0 0)
 replace y1 := y1.set_ 4 (.slice none 0 0)
 simp only [List.set_cons_zero, List.set_cons_succ] at y1
 replace y2 := y2.far (p := ⟨w.heap.size, 4, none⟩) (by show w.heap.size + 1 ≠ w.heap.size; omega) (.slice none 0 0)
 replace hw1 := hw1.setCell (p := ⟨w.heap.size, 4, none⟩) (Nat.le_refl _) (.slice none 0 0)
 go_loopw [15] (fun i wr => ∃ (k : Nat) (vl : Value), i = .int .i64 k ∧ k ≤ l.length ∧ Rows2 (fun y => w.heap.size + 1 + 1 ≤ y) (w.heap.size + 1 + 1) wr w.heap.size (.slice P1 ids.length p1) vl ids (l.take k) ∧
  Box wr w.heap.size 37 [.int .i64 kind, .int .i64 n, .string s, .slice P1 ids.length p1, vl] ∧ Box wr (w.heap.size + 1) 37 [.int .i64 0, .int .i64 0, .string ⟨#[]⟩, .slice none 0 0, .slice none 0 0] ∧ Below w.heap.size w wr) (fun i _ => l.length - (intOf i).toNat)
 case atStart => exact ⟨0, _, rfl, by omega, hR, y1, y2, hw1⟩
 case round =>
  clear hR y1 y2 hw1
  obtain ⟨k, vl, rfl, hk, hR, zG, zR, hw⟩ := hrel
  by_cases hlt : k < l.length
  ·obtain ⟨lg, lo, rfl, hSl, hlgw⟩ := HL.out.base (by omega)
   obtain ⟨es, _, hrx, hlies⟩ := HL.out.lies hlt
   have hcl := hlies.keep (Keep.of_below hw) hSl
   have hdx := HD.out l[k] (List.getElem_mem hlt)
   have htk : l.take (k + 1) = l.take k ++ [l[k]] := List.take_succ_eq_append_getElem hlt
   obtain ⟨x, hx⟩ : ∃ x, x = l[k] := ⟨_, rfl⟩
   rw [← hx] at hrx hdx htk
   obtain ⟨xk, xn, xs, xi, xl⟩ := x
   obtain ⟨E1, f1, E2, f2, rfl, _, _⟩ := hrx.parts
   have q0 : wr.cell? ⟨lg, lo + k * 5, none⟩ = some (.int .i64 xk) := hcl.at_ 0 rfl
   have q1 : wr.cell? ⟨lg, lo + k * 5 + 1, none⟩ = some (.int .i64 xn) := hcl.at_ 1 rfl
   have q2 : wr.cell? ⟨lg, lo + k * 5 + 2, none⟩ = some (.string xs) := hcl.at_ 2 rfl
   have q3 : wr.cell? ⟨lg, lo + k * 5 + 3, none⟩ = some (.slice E1 xi.length f1) := hcl.at_ 3 rfl
   have q4 : wr.cell? ⟨lg, lo + k * 5 + 4, none⟩ = some (.slice E2 xl.length f2) := hcl.at_ 4 rfl
   have hlgl : lg < wr.heap.size := Nat.lt_of_lt_of_le hlgw hw.size
   have HRx := Lib.hid hrx
   have HDx := Lib.hid hdx
   have hbl : (l.take k).length = k := by rw [List.length_take]; omega
   obtain ⟨acc, hacc⟩ : ∃ a, a = l.take k := ⟨_, rfl⟩
   rw [← hacc] at hR htk hbl
   have HTK := Lib.hid htk
   have Hbl := Lib.hid hbl
   have hBw := hR.hb
   clear hcl hrx hdx hx hlies hacc htk hbl
   have hVX := fun k hk => (hR.llt (x := k) hk).2
   replace zG := zG.alloc (.cells #[.int .i64 xk, .int .i64 xn, .string xs, .slice E1 xi.length f1, .slice E2 xl.length f2] 37)
   replace zR := zR.alloc (.cells #[.int .i64 xk, .int .i64 xn, .string xs, .slice E1 xi.length f1, .slice E2 xl.length f2] 37)
   replace hR := hR.alloc (.cells #[.int .i64 xk, .int .i64 xn, .string xs, .slice E1 xi.length f1, .slice E2 xl.length f2] 37)
   have zX : Box (wr.alloc (.cells #[.int .i64 xk, .int .i64 xn, .string xs, .slice E1 xi.length f1, .slice E2 xl.length f2] 37)) wr.heap.size 37 [.int .i64 xk, .int .i64 xn, .string xs, .slice E1 xi.length f1, .slice E2 xl.length f2] := Box.new wr _ _
   replace hw := hw.alloc hw.size (.cells #[.int .i64 xk, .int .i64 xn, .string xs, .slice E1 xi.length f1, .slice E2 xl.length f2] 37)
   obtain ⟨V, vc, rfl, hvc⟩ := hR.l.form
   go_wp2_with fail
   clear q0 q1 q2 q3 q4 hlgl
   generalize hWW : wr.alloc (.cells #[.int .i64 xk, .int .i64 xn, .string xs, .slice E1 xi.length f1, .slice E2 xl.length f2] 37) = W0 at *
   generalize hXX : wr.heap.size = X at *
   clear hWW hXX
   have HSK : Hid (∀ W', Box W' w.heap.size 37 [.int .i64 kind, .int .i64 n, .string s, .slice P1 ids.length p1, .slice V acc.length vc] → Box W' X 37 [.int .i64 xk, .int .i64 xn, .string xs, .slice E1 xi.length f1, .slice E2 xl.length f2] → (W'.cell? ⟨w.heap.size, 4, none⟩ = some (.slice V acc.length vc) ∧ (W'.cell? ⟨X, 0, none⟩ = some (.int .i64 xk) ∧ W'.cell? ⟨X, 1, none⟩ = some (.int .i64 xn) ∧ W'.cell? ⟨X, 2, none⟩ = some (.string xs) ∧ W'.cell? ⟨X, 3, none⟩ = some (.slice E1 xi.length f1) ∧ W'.cell? ⟨X, 4, none⟩ = some (.slice E2 xl.length f2)))) := fun W' h1 h2 => ⟨h1.cell 4, h2.five⟩
   replace hR := hR.drew
   replace zG := zG.drew
   replace zR := zR.drew
   replace zX := zX.drew
   replace hw := below_drew hw
   have hS := HSK.out _ zG zX
   refine late_start (fun W' => W'.cell? ⟨w.heap.size, 4, none⟩ = some (.slice V acc.length vc) ∧ (W'.cell? ⟨X, 0, none⟩ = some (.int .i64 xk) ∧ W'.cell? ⟨X, 1, none⟩ = some (.int .i64 xn) ∧ W'.cell? ⟨X, 2, none⟩ = some (.string xs) ∧ W'.cell? ⟨X, 3, none⟩ = some (.slice E1 xi.length f1) ∧ W'.cell? ⟨X, 4, none⟩ = some (.slice E2 xl.length f2))) 6 (by kernel_rfl) ?_
   refine tkL 0 hS ?_
   try simp only [pu]
   refine tkL 1 hS ?_
   try simp only [pu]
   refine tkL 2 hS ?_
   try simp only [pu]
   have hR1 := hR
   refine late_one (i := 3) rfl (by kernel_rfl) (fun K hK => ?_)
   go_simp
   refine (IH.out S _ (.mk xk xn xs xi xl) _ HDx.out (RVal.fair.below HRx.out hw)).mono ?_
   rintro e w3 ⟨cs3, rfl, hr3, hb3⟩
   obtain ⟨G1, g1, G2, g2, rfl, -, -⟩ := hr3.parts
   replace hR := hR.below hb3
   replace zG := zG.below hb3 zG.lt
   replace zR := zR.below hb3 zR.lt
   replace zX := zX.below hb3 zX.lt
   replace hw := below_via hw hb3 hw.size
   replace hS := HSK.out _ zG zX
   refine hK.out _ _ (fun _ => hS) ?_
   clear hK K
   try simp only [pu]
   refine late_one (i := 4) rfl (by kernel_rfl) (fun K hK => ?_)
   go_simp
   have hZ := Box.newB hw 37 [.int .i64 xk, .int .i64 xn, .string xs, .slice G1 xi.length g1, .slice G2 xl.length g2]
   replace hR := hR.alloc (.cells #[.int .i64 xk, .int .i64 xn, .string xs, .slice G1 xi.length g1, .slice G2 xl.length g2] 37)
   replace zG := zG.alloc (.cells #[.int .i64 xk, .int .i64 xn, .string xs, .slice G1 xi.length g1, .slice G2 xl.length g2] 37)
   replace zR := zR.alloc (.cells #[.int .i64 xk, .int .i64 xn, .string xs, .slice G1 xi.length g1, .slice G2 xl.length g2] 37)
   replace zX := zX.alloc (.cells #[.int .i64 xk, .int .i64 xn, .string xs, .slice G1 xi.length g1, .slice G2 xl.length g2] 37)
   replace hw := hw.alloc hw.size (.cells #[.int .i64 xk, .int .i64 xn, .string xs, .slice G1 xi.length g1, .slice G2 xl.length g2] 37)
   replace hS := HSK.out _ zG zX
   refine hK.out _ _ (fun _ => hS) ?_
   clear hK K
   try simp only [pu]
   refine late_one (i := 5) rfl (by kernel_rfl) (fun K hK => ?_)
   refine step_append _ rfl (.tmp 20) (.tmp 23) rfl sl_vals RVal.fair rfl rfl hR.lrow (Src.one (es := [.int .i64 xk, .int .i64 xn, .string xs, .slice G1 xi.length g1, .slice G2 xl.length g2]) (y := .mk xk xn xs xi xl) rfl (Ones.of_all rfl) (hR1.apart (RVal.fair.keep hr3 (Keep.alloc _ _ _)) (fun y hy _ => ⟨.inl hy, Nat.le_trans hR1.hb hy⟩)) hZ.lies) (fun _ h => h.2) (by simp [Hbl.out]; omega) hR.hb ?_
   intro v5 w5 ho5 hg5 hv5
   have hR' := hR.push_l ho5 hg5 hv5
   replace zG := zG.grownR hR.l (.inl (by omega)) hg5
   replace zR := zR.grownR hR.l (.inl (by omega)) hg5
   replace zX := zX.grown hg5 (fun e => by have := hVX _ e; omega)
   replace hw := below_grown hw hg5 hw.size (fun g' h => by have := (hR.llt h).1; omega)
   replace hR := hR'
   clear hR'
   obtain ⟨R2, p2, rfl, _⟩ := hR.l.form
   replace hS := HSK.out _ zG zX
   have fz4 := zG.frozen 4
   have cz4 := zG.cell 4
   have lz := zG.lt
   simp only [List.getElem?_cons_zero, List.getElem?_cons_succ] at cz4
   refine hK.out _ _ (fun _ => hS) ?_
   clear hK K
   try simp only [pu]
   refine late_one (i := 6) rfl (by kernel_rfl) (fun K hK => ?_)
   go_simp
   refine hK.out _ _ (fun h => absurd h (by decide)) ?_
   clear hK K
   try simp only [pu]
   refine late_one (i := 7) rfl (by kernel_rfl) (fun K hK => ?_)
   go_simp
   refine hK.out _ _ (fun h => absurd h (by decide)) ?_
   clear hK K
   try simp only [pu]
   refine late_done (by kernel_rfl) ?_ _
   simp only [List.length_append, List.length_cons, List.length_nil, Nat.zero_add] at hR
   replace hR := hR.setCell 4 (.slice R2 (acc.length + 1) p2)
   replace zG := zG.set_ 4 (.slice R2 (acc.length + 1) p2)
   simp only [List.set_cons_zero, List.set_cons_succ] at zG
   replace zR := zR.far (p := ⟨w.heap.size, 4, none⟩) (by show w.heap.size + 1 ≠ w.heap.size; omega) (.slice R2 (acc.length + 1) p2)
   replace hw := hw.setCell (p := ⟨w.heap.size, 4, none⟩) (Nat.le_refl _) (.slice R2 (acc.length + 1) p2)
   clear hS fz4 cz4 lz hg5 hv5 ho5 zX hZ hr3 hb3 hR1
   go_wp2_with fail
   go_roundw
   case rel => exact ⟨k + 1, _, by go_num, by omega, by rw [HTK.out]; exact hR, zG, zR, hw⟩
   case measure => simp [intOf]; omega
  ·have hkb : k = l.length := by omega
   subst hkb
   rw [List.take_length] at hR
   obtain ⟨V, vc, rfl, hvc⟩ := hR.l.form
   obtain ⟨c0, c1, c2, c3, c4⟩ := zG.five
   have lG := zG.lt
   have f0 := zR.frozen 0
   have f1 := zR.frozen 1
   have f2 := zR.frozen 2
   have f3 := zR.frozen 3
   have f4 := zR.frozen 4
   obtain ⟨d0, d1, d2, d3, d4⟩ := zR.five
   have lR := zR.lt
   have H2 := Lib.hid (zR.setCells [.int .i64 kind, .int .i64 n, .string s, .slice P1 ids.length p1, .slice V l.length vc] rfl)
   have hR2 := Rows2.farCells (g' := w.heap.size + 1) (hR.nei (by omega)) (hR.nel (by omega)) (by show ¬ (w.heap.size + 1 + 1 ≤ w.heap.size + 1); omega) [.int .i64 kind, .int .i64 n, .string s, .slice P1 ids.length p1, .slice V l.length vc] 0 hR
   have HR := Lib.hid (RVal.mk (kind := kind) (n := n) (s := s) (S := New w) (hR2.ids.read RInt.fair (fun _ h => h.elim) (fun x hx => (show w.heap.size ≤ x by have := (hR2.ilt hx).1; omega)) (by omega)) (hR2.l.read RVal.fair (fun y hy _ => (show w.heap.size ≤ y by have : w.heap.size + 1 + 1 ≤ y := hy.2.2.2; omega)) (fun x hx => (show w.heap.size ≤ x by have := (hR2.llt hx).1; omega)) (by omega)))
   have HW := Lib.hid (below_setCells (g := w.heap.size + 1) (Nat.le_succ _) [.int .i64 kind, .int .i64 n, .string s, .slice P1 ids.length p1, .slice V l.length vc] 0 _ hw)
   clear hR hR2 zG zR hw
   go_wp2_with fail
   change bodyPost _ _ _ _ _ (setCells wr (w.heap.size + 1) 0 [.int .i64 kind, .int .i64 n, .string s, .slice P1 ids.length p1, .slice V l.length vc])
   exact bodyPost_ret (copyV_results H2.out rfl) rfl ⟨_, rfl, HR.out, HW.out⟩
theorem copyValue_any : ∀ d, CopyVAt d
 | 0 => fun _ _ v _ hd _ => by
  obtain ⟨kind, n, s, ids, l⟩ := v
  rw [depthV] at hd; omega
 | d + 1 => copyV_succ d (copyValue_any d)
end Go.Proofs.YtfidfakcbjoilaaGreatDoor
