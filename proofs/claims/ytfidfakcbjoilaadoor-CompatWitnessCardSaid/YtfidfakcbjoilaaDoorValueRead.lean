/- The walks of value.Decode and value.Least. -/
import Derived.Deep.Light
import Derived.Test.YtfidfakcbjoilaaDoorValueDec
import Derived.Test.YtfidfakcbjoilaaDoorValueTop
set_option linter.all false
set_option maxRecDepth 100000
set_option maxHeartbeats 8000000
namespace Go.Proofs.YtfidfakcbjoilaaDoor
open Go.RowKit
theorem Decode_results {W : World} {a : Act} {g : Nat} {c0 c1 c2 c3 c4 : Value} {n : Int} (hb : Box W g 28 [c0, c1, c2, c3, c4]) (h4 : a.tmps.getD 6 undef = .pointer (some ⟨g, 0, none⟩)) (h5 : a.tmps.getD 7 undef = .int .i64 n) :
  (results Tryd.f11 a.tmps).run Tryd.prog W = .ok (.tuple #[.agg #[c0, c1, c2, c3, c4], .int .i64 n]) W := by
 obtain ⟨e0, e1, e2, e3, e4⟩ := hb.five
 simp only [Array.getD_eq_getD_getElem?] at h4 h5
 simp [results, Tryd.results11, go_sem, h4, h5, e0, e1, e2, e3, e4]
theorem Least_results {W : World} {a : Act} {g : Nat} {c0 c1 c2 c3 c4 : Value} {n : Int} (hb : Box W g 28 [c0, c1, c2, c3, c4]) (h4 : a.tmps.getD 4 undef = .pointer (some ⟨g, 0, none⟩)) (h5 : a.tmps.getD 5 undef = .int .i64 n) :
  (results Tryd.f77 a.tmps).run Tryd.prog W = .ok (.tuple #[.agg #[c0, c1, c2, c3, c4], .int .i64 n]) W := by
 obtain ⟨e0, e1, e2, e3, e4⟩ := hb.five
 simp only [Array.getD_eq_getD_getElem?] at h4 h5
 simp [results, Tryd.results77, go_sem, h4, h5, e0, e1, e2, e3, e4]
theorem vDecode_any (S : Nat → Prop) (vb : Value) (b : BookD) (name s : ByteArray) (w : World) (hb0 : RSl 5 96 RType S w [vb] b) (hW : Words w) (hB : BookOk b) (hs : s.size ≤ maxLen) :
  Calls Tryd.prog 11 #[.agg #[vb], .string name, .string s] w (ValCode w (DecodeF b name (bytes s))) := by
 obtain ⟨A, cap, rfl, hlc, hlb⟩ := hb0.form
 obtain ⟨r, hrr⟩ : ∃ r, r = DecodeF b name (bytes s) := ⟨_, rfl⟩
 have hr0 : r = if goodF b ≠ 0 then (.zero, 1) else if noneB b name = true then (.zero, 3) else if (decV b 24 (typeOf b name) (bytes s)).2 ≠ 0 then (.zero, (decV b 24 (typeOf b name) (bytes s)).2)
   else if smallF (decV b 24 (typeOf b name) (bytes s)).1 = false then (.zero, 7) else ((decV b 24 (typeOf b name) (bytes s)).1, 0) := hrr
 have hrun : goodF b = 0 → noneB b name = false → ∀ W cst, RSl 5 96 RType S W [.slice A b.length cap] b → RType S W cst (typeOf b name) → Calls Tryd.prog 29 #[.agg #[.slice A b.length cap], .agg cst.toArray, .string s, .int .i64 1] W (ValCode W (decV b 24 (typeOf b name) (bytes s))) := fun hg hn W cst h0 h1 => by
  obtain ⟨t, q1, q2, q3, q4, q5⟩ := noneB_type hn
  rw [q2] at h1 ⊢
  exact vdecode_any S _ b hg 24 1 cst t s W (by simp) (by omega) h0 h1 q3 (by rw [q4]; exact q1) q5 hs
 have hsz : goodF b = 0 → noneB b name = false → countV (decV b 24 (typeOf b name) (bytes s)).1 ≤ 240012 ∧ depthV (decV b 24 (typeOf b name) (bytes s)).1 ≤ 29 := fun hg hn => decode_size hg hn _
 rw [← hrr]
 obtain ⟨dv, hdv⟩ : ∃ dv, dv = fun t => decV b 24 t (bytes s) := ⟨_, rfl⟩
 have hdv' : ∀ t, decV b 24 t (bytes s) = dv t := fun t => by rw [hdv]
 simp only [hdv'] at hr0 hrun hsz
 obtain ⟨gd, hgd⟩ : ∃ gd, gd = goodF b := ⟨_, rfl⟩
 have hgood := fun W (h0 : RSl 5 96 RType S W [.slice A b.length cap] b) (h1 : Words W) => good_any S _ b W h0 h1 hB
 rw [← hgd] at hr0 hrun hsz hgood
 rw [noneB_eq] at hr0 hrun hsz
 have Hr := Lib.hid hr0
 have Hrun := Lib.hid (And.intro hrun hsz)
 have Hgood := Lib.hid hgood
 have HB := Lib.hid hb0
 have HW := Lib.hid hW
 clear hrr hr0 hrun hsz hdv hdv' hgd hgood hs
 obtain ⟨x1, x2, x3⟩ := boxes2 w [.slice A b.length cap] [.int .i64 0, .int .i64 0, .string ⟨#[]⟩, .slice none 0 0, .slice none 0 0] 24 28
 clear hb0 hW hB
 go_enter Tryd.func11, Tryd.ntmps11
 go_wp2_with fail
 refine (find_any S _ b name _ ((RSl.fair RType.fair).below HB.out x3)).mono ?_
 rintro e w1 ⟨cs3, rfl, hr3, hb1⟩
 obtain ⟨B1, l1, B2, l2, B3, l3, rfl, -, -, -⟩ := hr3.parts
 have hw1 := below_via x3 hb1 x3.size
 have y1 := x1.below hb1 x1.lt
 have y2 := x2.below hb1 x2.lt
 obtain ⟨ty, hty⟩ : ∃ ty, ty = typeOf b name := ⟨_, rfl⟩
 have hty' : (findT b name).getD TypeD.zero = ty := hty.symm
 rw [hty'] at hr3 ⊢
 rw [← hty] at Hr Hrun
 obtain ⟨ok, hok⟩ : ∃ ok, ok = (findT b name).isSome := ⟨_, rfl⟩
 rw [← hok] at Hr Hrun ⊢
 have hw2 := hw1.alloc hw1.size (.cells #[.string ty.name, .bool ty.enum, .slice B1 ty.fields.length l1, .slice B2 ty.gone.length l2, .slice B3 ty.items.length l3] 52)
 have z1 := y1.alloc (.cells #[.string ty.name, .bool ty.enum, .slice B1 ty.fields.length l1, .slice B2 ty.gone.length l2, .slice B3 ty.items.length l3] 52)
 have z2 := y2.alloc (.cells #[.string ty.name, .bool ty.enum, .slice B1 ty.fields.length l1, .slice B2 ty.gone.length l2, .slice B3 ty.items.length l3] 52)
 have z3 : Box (w1.alloc (.cells #[.string ty.name, .bool ty.enum, .slice B1 ty.fields.length l1, .slice B2 ty.gone.length l2, .slice B3 ty.items.length l3] 52)) w1.heap.size 52 [.string ty.name, .bool ty.enum, .slice B1 ty.fields.length l1, .slice B2 ty.gone.length l2, .slice B3 ty.items.length l3] := Box.new w1 _ _
 have HR3 := Lib.hid (RType.fair.keep hr3 ((Keep.of_below hb1).trans (Keep.alloc S w1 (.cells #[.string ty.name, .bool ty.enum, .slice B1 ty.fields.length l1, .slice B2 ty.gone.length l2, .slice B3 ty.items.length l3] 52))))
 have s0 : w1.cell? ⟨w.heap.size, 0, none⟩ = some (.slice A b.length cap) := y1.cell 0
 have hl1 := y1.lt
 clear hb1 hty hty' hok hr3 x1 x2 x3
 go_wp2_with fail
 refine (Hgood.out _ ((RSl.fair RType.fair).below HB.out hw2) (HW.out.below hw2)).mono ?_
 rintro e w3 ⟨rfl, hb3⟩
 have hw3 := below_via hw2 hb3 hw2.size
 have v1 := z1.below hb3 z1.lt
 have v2 := z2.below hb3 z2.lt
 have v3 := z3.below hb3 z3.lt
 have HR4 := Lib.hid (RType.fair.keep HR3.out (Keep.of_below hb3))
 obtain ⟨t0, t1, t2, t3, t4⟩ := v3.five
 obtain ⟨r0, r1, r2, r3, r4⟩ := v2.five
 have g0 := v2.frozen 0
 have g1 := v2.frozen 1
 have g2 := v2.frozen 2
 have g3 := v2.frozen 3
 have g4 := v2.frozen 4
 have hlr := v2.lt
 have hl3 := v3.lt
 have s1 : w3.cell? ⟨w.heap.size, 0, none⟩ = some (.slice A b.length cap) := v1.cell 0
 have hl1' := v1.lt
 clear hb3 z1 z2 z3 HR3 hw2 s0 hl1
 by_cases hg : gd = 0
 ·subst hg
  rw [if_neg (by simp)] at Hr
  obtain ⟨tyn, tye, tyf, tyg, tyi⟩ := ty
  dsimp only at Hr Hrun t0 t1 t2 t3 t4
  cases ok with
  | false =>
   simp only [Bool.not_false, Bool.true_or, if_true] at Hr
   have Hno := Hr
   go_wp2_with fail
   change bodyPost _ _ _ _ _ (setCells w3 (w.heap.size + 1) 0 [.int .i64 0, .int .i64 0, .string ⟨#[]⟩, .slice none 0 0, .slice none 0 0])
   have hb5 := v2.setCells [.int .i64 0, .int .i64 0, .string ⟨#[]⟩, .slice none 0 0, .slice none 0 0] rfl
   have hw5 := below_setCells (g := (w.heap.size + 1)) (by go_light; omega) [.int .i64 0, .int .i64 0, .string ⟨#[]⟩, .slice none 0 0, .slice none 0 0] 0 _ hw3
   generalize setCells w3 (w.heap.size + 1) 0 _ = W5 at hb5 hw5 ⊢
   rw [Hno.out]
   exact bodyPost_ret (Decode_results hb5 rfl rfl) rfl ⟨_, rfl, RVal.zero, hw5⟩
  | true =>
   cases tye with
   | true =>
    simp only [Bool.not_true, Bool.false_or, if_true] at Hr
    have Hno := Hr
    go_wp2_with fail
    change bodyPost _ _ _ _ _ (setCells w3 (w.heap.size + 1) 0 [.int .i64 0, .int .i64 0, .string ⟨#[]⟩, .slice none 0 0, .slice none 0 0])
    have hb5 := v2.setCells [.int .i64 0, .int .i64 0, .string ⟨#[]⟩, .slice none 0 0, .slice none 0 0] rfl
    have hw5 := below_setCells (g := (w.heap.size + 1)) (by go_light; omega) [.int .i64 0, .int .i64 0, .string ⟨#[]⟩, .slice none 0 0, .slice none 0 0] 0 _ hw3
    generalize setCells w3 (w.heap.size + 1) 0 _ = W5 at hb5 hw5 ⊢
    rw [Hno.out]
    exact bodyPost_ret (Decode_results hb5 rfl rfl) rfl ⟨_, rfl, RVal.zero, hw5⟩
   | false =>
    simp only [Bool.not_true, Bool.false_or, Bool.false_eq_true, if_false] at Hr
    have Hcall := Lib.hid (Hrun.out.1 rfl (by simp) w3 _ ((RSl.fair RType.fair).below HB.out hw3) HR4.out)
    have Hsz := Lib.hid (Hrun.out.2 rfl (by simp))
    go_wp2_with fail
    refine Hcall.out.mono ?_
    rintro e w5 ⟨cs5, rfl, hr5, hb5⟩
    obtain ⟨⟨⟨vk, vn, vs, vids, vls⟩, dc⟩, hvd⟩ : ∃ d, d = dv ⟨tyn, false, tyf, tyg, tyi⟩ := ⟨_, rfl⟩
    rw [← hvd] at hr5 Hr Hsz ⊢
    dsimp only at hr5 Hr Hsz ⊢
    obtain ⟨D1, f1, D2, f2, rfl, -, -⟩ := hr5.parts
    have hw5 := below_via hw3 hb5 hw3.size
    have p2 := v2.below hb5 v2.lt
    have hwv := hw5.alloc hw5.size (.cells #[.int .i64 vk, .int .i64 vn, .string vs, .slice D1 vids.length f1, .slice D2 vls.length f2] 28)
    have q2 := p2.alloc (.cells #[.int .i64 vk, .int .i64 vn, .string vs, .slice D1 vids.length f1, .slice D2 vls.length f2] 28)
    have qv : Box (w5.alloc (.cells #[.int .i64 vk, .int .i64 vn, .string vs, .slice D1 vids.length f1, .slice D2 vls.length f2] 28)) w5.heap.size 28 [.int .i64 vk, .int .i64 vn, .string vs, .slice D1 vids.length f1, .slice D2 vls.length f2] := Box.new w5 _ _
    have Hrv := Lib.hid (RVal.fair.keep hr5 (Keep.alloc _ w5 (.cells #[.int .i64 vk, .int .i64 vn, .string vs, .slice D1 vids.length f1, .slice D2 vls.length f2] 28)))
    have hsz3 := And.intro hw3.size v2.lt
    have Hsz3 := Lib.hid hsz3
    clear t0 t1 t2 t3 t4 r0 r1 r2 r3 r4 g0 g1 g2 g3 g4 hlr hl3 s1 hl1' hvd hr5 hb5 Hcall HR4 v1 v2 v3 hsz3
    by_cases hdc : dc = 0
    ·subst hdc
     rw [if_neg (by simp)] at Hr
     go_wp2_with fail
     generalize hWv : w5.alloc (.cells #[.int .i64 vk, .int .i64 vn, .string vs, .slice D1 vids.length f1, .slice D2 vls.length f2] 28) = Wv at *
     generalize hV : w5.heap.size = V at *
     clear hWv hV
     have hcs := small_any (New w3) _ (.mk vk vn vs vids vls) Wv Hrv.out (by have := Hsz.out.2; omega) (by have := Hsz.out.1; omega)
     obtain ⟨sm, hsm⟩ : ∃ sm, sm = smallF (.mk vk vn vs vids vls) := ⟨_, rfl⟩
     rw [← hsm] at hcs Hr
     have Hcs := Lib.hid hcs
     obtain ⟨u0, u1, u2, u3, u4⟩ := qv.five
     have hlv := qv.lt
     clear hcs hsm
     go_wp2_with fail
     refine Hcs.out.mono ?_
     rintro e w6 ⟨rfl, hb6⟩
     have hw6 := below_via hwv hb6 hwv.size
     have m2 := q2.below hb6 q2.lt
     have mv := qv.below hb6 qv.lt
     have Hr6 := Lib.hid (RVal.fair.below Hrv.out hb6)
     clear u0 u1 u2 u3 u4 hlv hb6 Hcs q2 qv hwv Hrv
     obtain ⟨u0, u1, u2, u3, u4⟩ := mv.five
     have hlv := mv.lt
     obtain ⟨r0, r1, r2, r3, r4⟩ := m2.five
     have g0 := m2.frozen 0
     have g1 := m2.frozen 1
     have g2 := m2.frozen 2
     have g3 := m2.frozen 3
     have g4 := m2.frozen 4
     have hlr := m2.lt
     cases sm with
     | false =>
      rw [if_pos rfl] at Hr
      have Hno := Hr
      go_wp2_with fail
      change bodyPost _ _ _ _ _ (setCells w6 (w.heap.size + 1) 0 [.int .i64 0, .int .i64 0, .string ⟨#[]⟩, .slice none 0 0, .slice none 0 0])
      have hb5 := m2.setCells [.int .i64 0, .int .i64 0, .string ⟨#[]⟩, .slice none 0 0, .slice none 0 0] rfl
      have hw5 := below_setCells (g := (w.heap.size + 1)) (by go_light; omega) [.int .i64 0, .int .i64 0, .string ⟨#[]⟩, .slice none 0 0, .slice none 0 0] 0 _ hw6
      generalize setCells w6 (w.heap.size + 1) 0 _ = W5 at hb5 hw5 ⊢
      rw [Hno.out]
      exact bodyPost_ret (Decode_results hb5 rfl rfl) rfl ⟨_, rfl, RVal.zero, hw5⟩
     | true =>
      rw [if_neg (by simp)] at Hr
      go_wp2_with fail
      change bodyPost _ _ _ _ _ (setCells w6 (w.heap.size + 1) 0 [.int .i64 vk, .int .i64 vn, .string vs, .slice D1 vids.length f1, .slice D2 vls.length f2])
      have hb5 := m2.setCells [.int .i64 vk, .int .i64 vn, .string vs, .slice D1 vids.length f1, .slice D2 vls.length f2] rfl
      have hw5' := below_setCells (g := (w.heap.size + 1)) (by go_light; omega) [.int .i64 vk, .int .i64 vn, .string vs, .slice D1 vids.length f1, .slice D2 vls.length f2] 0 _ hw6
      have hrd : RVal (New w) (setCells w6 (w.heap.size + 1) 0 [.int .i64 vk, .int .i64 vn, .string vs, .slice D1 vids.length f1, .slice D2 vls.length f2]) [.int .i64 vk, .int .i64 vn, .string vs, .slice D1 vids.length f1, .slice D2 vls.length f2] (.mk vk vn vs vids vls) :=
       RVal.fair.mono (RVal.fair.keep Hr6.out (Keep.setCells (by have := Hsz3.out; unfold New; go_light; omega) _ _ _)) (fun y hy _ => by have := Hsz3.out; unfold New at *; go_light; omega)
      generalize setCells w6 (w.heap.size + 1) 0 _ = W5 at hb5 hw5' hrd ⊢
      rw [Hr.out]
      exact bodyPost_ret (Decode_results hb5 rfl rfl) rfl ⟨_, rfl, hrd, hw5'⟩
    ·have hcb : (dc != 0) = true := by simpa using hdc
     rw [if_pos hdc] at Hr
     have Hno := Hr
     clear hdc
     obtain ⟨r0, r1, r2, r3, r4⟩ := q2.five
     have g0 := q2.frozen 0
     have g1 := q2.frozen 1
     have g2 := q2.frozen 2
     have g3 := q2.frozen 3
     have g4 := q2.frozen 4
     have hlr := q2.lt
     go_wp2_with fail
     change bodyPost _ _ _ _ _ (setCells (w5.alloc (.cells #[.int .i64 vk, .int .i64 vn, .string vs, .slice D1 vids.length f1, .slice D2 vls.length f2] 28)) (w.heap.size + 1) 0 [.int .i64 0, .int .i64 0, .string ⟨#[]⟩, .slice none 0 0, .slice none 0 0])
     have hb5 := q2.setCells [.int .i64 0, .int .i64 0, .string ⟨#[]⟩, .slice none 0 0, .slice none 0 0] rfl
     have hw5 := below_setCells (g := (w.heap.size + 1)) (by go_light; omega) [.int .i64 0, .int .i64 0, .string ⟨#[]⟩, .slice none 0 0, .slice none 0 0] 0 _ hwv
     generalize setCells (w5.alloc (.cells #[.int .i64 vk, .int .i64 vn, .string vs, .slice D1 vids.length f1, .slice D2 vls.length f2] 28)) (w.heap.size + 1) 0 _ = W5 at hb5 hw5 ⊢
     rw [Hno.out]
     exact bodyPost_ret (Decode_results hb5 rfl rfl) rfl ⟨_, rfl, RVal.zero, hw5⟩
 ·have hgb : (gd != 0) = true := by simpa using hg
  rw [if_pos hg] at Hr
  have Hno := Hr
  clear hg
  go_wp2_with fail
  change bodyPost _ _ _ _ _ (setCells w3 (w.heap.size + 1) 0 [.int .i64 0, .int .i64 0, .string ⟨#[]⟩, .slice none 0 0, .slice none 0 0])
  have hb5 := v2.setCells [.int .i64 0, .int .i64 0, .string ⟨#[]⟩, .slice none 0 0, .slice none 0 0] rfl
  have hw5 := below_setCells (g := (w.heap.size + 1)) (by go_light; omega) [.int .i64 0, .int .i64 0, .string ⟨#[]⟩, .slice none 0 0, .slice none 0 0] 0 _ hw3
  generalize setCells w3 (w.heap.size + 1) 0 _ = W5 at hb5 hw5 ⊢
  rw [Hno.out]
  exact bodyPost_ret (Decode_results hb5 rfl rfl) rfl ⟨_, rfl, RVal.zero, hw5⟩
theorem vLeast_any (S : Nat → Prop) (vb : Value) (b : BookD) (name : ByteArray) (w : World) (hb0 : RSl 5 96 RType S w [vb] b) (hW : Words w) (hB : BookOk b) :
  Calls Tryd.prog 77 #[.agg #[vb], .string name] w (ValCode w (LeastF b name)) := by
 obtain ⟨A, cap, rfl, hlc, hlb⟩ := hb0.form
 obtain ⟨r, hrr⟩ : ∃ r, r = LeastF b name := ⟨_, rfl⟩
 have hr0 : r = if goodF b ≠ 0 then (.zero, 1) else if noneB b name = true then (.zero, 3) else (leastTF b 4 (typeOf b name), 0) := hrr
 have hrun : goodF b = 0 → noneB b name = false → ∀ W cst, RSl 5 96 RType S W [.slice A b.length cap] b → RType S W cst (typeOf b name) → Calls Tryd.prog 95 #[.agg #[.slice A b.length cap], .agg cst.toArray] W (ValPost W (leastTF b 4 (typeOf b name))) := fun hg hn W cst h0 h1 => by
  obtain ⟨t, q1, q2, q3, q4, q5⟩ := noneB_type hn
  rw [q2] at h1 ⊢
  have hm := good_msg hg q3 q5
  exact least_step S _ b 4 (leastOf_any S _ b hg 4) cst t W h0 h1 hm (fun f hf => good_ends hg hm (onesL_mem.1 hf).1)
 rw [← hrr]
 obtain ⟨dv, hdv⟩ : ∃ dv, dv = fun t => leastTF b 4 t := ⟨_, rfl⟩
 have hdv' : ∀ t, leastTF b 4 t = dv t := fun t => by rw [hdv]
 simp only [hdv'] at hr0 hrun
 obtain ⟨gd, hgd⟩ : ∃ gd, gd = goodF b := ⟨_, rfl⟩
 have hgood := fun W (h0 : RSl 5 96 RType S W [.slice A b.length cap] b) (h1 : Words W) => good_any S _ b W h0 h1 hB
 rw [← hgd] at hr0 hrun hgood
 rw [noneB_eq] at hr0 hrun
 have Hr := Lib.hid hr0
 have Hrun := Lib.hid hrun
 have Hgood := Lib.hid hgood
 have HB := Lib.hid hb0
 have HW := Lib.hid hW
 clear hrr hr0 hrun hdv hdv' hgd hgood
 obtain ⟨x1, x2, x3⟩ := boxes2 w [.slice A b.length cap] [.int .i64 0, .int .i64 0, .string ⟨#[]⟩, .slice none 0 0, .slice none 0 0] 24 28
 clear hb0 hW hB
 go_enter Tryd.func77, Tryd.ntmps77
 go_wp2_with fail
 refine (find_any S _ b name _ ((RSl.fair RType.fair).below HB.out x3)).mono ?_
 rintro e w1 ⟨cs3, rfl, hr3, hb1⟩
 obtain ⟨B1, l1, B2, l2, B3, l3, rfl, -, -, -⟩ := hr3.parts
 have hw1 := below_via x3 hb1 x3.size
 have y1 := x1.below hb1 x1.lt
 have y2 := x2.below hb1 x2.lt
 obtain ⟨ty, hty⟩ : ∃ ty, ty = typeOf b name := ⟨_, rfl⟩
 have hty' : (findT b name).getD TypeD.zero = ty := hty.symm
 rw [hty'] at hr3 ⊢
 rw [← hty] at Hr Hrun
 obtain ⟨ok, hok⟩ : ∃ ok, ok = (findT b name).isSome := ⟨_, rfl⟩
 rw [← hok] at Hr Hrun ⊢
 have hw2 := hw1.alloc hw1.size (.cells #[.string ty.name, .bool ty.enum, .slice B1 ty.fields.length l1, .slice B2 ty.gone.length l2, .slice B3 ty.items.length l3] 52)
 have z1 := y1.alloc (.cells #[.string ty.name, .bool ty.enum, .slice B1 ty.fields.length l1, .slice B2 ty.gone.length l2, .slice B3 ty.items.length l3] 52)
 have z2 := y2.alloc (.cells #[.string ty.name, .bool ty.enum, .slice B1 ty.fields.length l1, .slice B2 ty.gone.length l2, .slice B3 ty.items.length l3] 52)
 have z3 : Box (w1.alloc (.cells #[.string ty.name, .bool ty.enum, .slice B1 ty.fields.length l1, .slice B2 ty.gone.length l2, .slice B3 ty.items.length l3] 52)) w1.heap.size 52 [.string ty.name, .bool ty.enum, .slice B1 ty.fields.length l1, .slice B2 ty.gone.length l2, .slice B3 ty.items.length l3] := Box.new w1 _ _
 have HR3 := Lib.hid (RType.fair.keep hr3 ((Keep.of_below hb1).trans (Keep.alloc S w1 (.cells #[.string ty.name, .bool ty.enum, .slice B1 ty.fields.length l1, .slice B2 ty.gone.length l2, .slice B3 ty.items.length l3] 52))))
 have s0 : w1.cell? ⟨w.heap.size, 0, none⟩ = some (.slice A b.length cap) := y1.cell 0
 have hl1 := y1.lt
 clear hb1 hty hty' hok hr3 x1 x2 x3
 go_wp2_with fail
 refine (Hgood.out _ ((RSl.fair RType.fair).below HB.out hw2) (HW.out.below hw2)).mono ?_
 rintro e w3 ⟨rfl, hb3⟩
 have hw3 := below_via hw2 hb3 hw2.size
 have v1 := z1.below hb3 z1.lt
 have v2 := z2.below hb3 z2.lt
 have v3 := z3.below hb3 z3.lt
 have HR4 := Lib.hid (RType.fair.keep HR3.out (Keep.of_below hb3))
 obtain ⟨t0, t1, t2, t3, t4⟩ := v3.five
 obtain ⟨r0, r1, r2, r3, r4⟩ := v2.five
 have g0 := v2.frozen 0
 have g1 := v2.frozen 1
 have g2 := v2.frozen 2
 have g3 := v2.frozen 3
 have g4 := v2.frozen 4
 have hlr := v2.lt
 have hl3 := v3.lt
 have s1 : w3.cell? ⟨w.heap.size, 0, none⟩ = some (.slice A b.length cap) := v1.cell 0
 have hl1' := v1.lt
 clear hb3 z1 z2 z3 HR3 hw2 s0 hl1
 by_cases hg : gd = 0
 ·subst hg
  rw [if_neg (by simp)] at Hr
  obtain ⟨tyn, tye, tyf, tyg, tyi⟩ := ty
  dsimp only at Hr Hrun t0 t1 t2 t3 t4
  cases ok with
  | false =>
   simp only [Bool.not_false, Bool.true_or, if_true] at Hr
   have Hno := Hr
   go_wp2_with fail
   change bodyPost _ _ _ _ _ (setCells w3 (w.heap.size + 1) 0 [.int .i64 0, .int .i64 0, .string ⟨#[]⟩, .slice none 0 0, .slice none 0 0])
   have hb5 := v2.setCells [.int .i64 0, .int .i64 0, .string ⟨#[]⟩, .slice none 0 0, .slice none 0 0] rfl
   have hw5 := below_setCells (g := (w.heap.size + 1)) (by go_light; omega) [.int .i64 0, .int .i64 0, .string ⟨#[]⟩, .slice none 0 0, .slice none 0 0] 0 _ hw3
   generalize setCells w3 (w.heap.size + 1) 0 _ = W5 at hb5 hw5 ⊢
   rw [Hno.out]
   exact bodyPost_ret (Least_results hb5 rfl rfl) rfl ⟨_, rfl, RVal.zero, hw5⟩
  | true =>
   cases tye with
   | true =>
    simp only [Bool.not_true, Bool.false_or, if_true] at Hr
    have Hno := Hr
    go_wp2_with fail
    change bodyPost _ _ _ _ _ (setCells w3 (w.heap.size + 1) 0 [.int .i64 0, .int .i64 0, .string ⟨#[]⟩, .slice none 0 0, .slice none 0 0])
    have hb5 := v2.setCells [.int .i64 0, .int .i64 0, .string ⟨#[]⟩, .slice none 0 0, .slice none 0 0] rfl
    have hw5 := below_setCells (g := (w.heap.size + 1)) (by go_light; omega) [.int .i64 0, .int .i64 0, .string ⟨#[]⟩, .slice none 0 0, .slice none 0 0] 0 _ hw3
    generalize setCells w3 (w.heap.size + 1) 0 _ = W5 at hb5 hw5 ⊢
    rw [Hno.out]
    exact bodyPost_ret (Least_results hb5 rfl rfl) rfl ⟨_, rfl, RVal.zero, hw5⟩
   | false =>
    simp only [Bool.not_true, Bool.false_or, Bool.false_eq_true, if_false] at Hr
    have Hcall := Lib.hid (Hrun.out rfl (by simp) w3 _ ((RSl.fair RType.fair).below HB.out hw3) HR4.out)
    go_wp2_with fail
    refine Hcall.out.mono ?_
    rintro e w5 ⟨cs5, rfl, hr5, hb5⟩
    obtain ⟨⟨vk, vn, vs, vids, vls⟩, hvd⟩ : ∃ d, d = dv ⟨tyn, false, tyf, tyg, tyi⟩ := ⟨_, rfl⟩
    rw [← hvd] at hr5 Hr
    obtain ⟨D1, f1, D2, f2, rfl, -, -⟩ := hr5.parts
    have hw5 := below_via hw3 hb5 hw3.size
    have p2 := v2.below hb5 v2.lt
    have Hsz3 := Lib.hid hw3.size
    have Hr5 := Lib.hid hr5
    clear t0 t1 t2 t3 t4 r0 r1 r2 r3 r4 g0 g1 g2 g3 g4 hlr hl3 s1 hl1' hvd hr5 hb5 Hcall HR4 v1 v3
    obtain ⟨r0, r1, r2, r3, r4⟩ := p2.five
    have g0 := p2.frozen 0
    have g1 := p2.frozen 1
    have g2 := p2.frozen 2
    have g3 := p2.frozen 3
    have g4 := p2.frozen 4
    have hlr := p2.lt
    have hlr2 := v2.lt
    have Hl2 := Lib.hid hlr2
    clear hlr2
    go_wp2_with fail
    change bodyPost _ _ _ _ _ (setCells w5 (w.heap.size + 1) 0 [.int .i64 vk, .int .i64 vn, .string vs, .slice D1 vids.length f1, .slice D2 vls.length f2])
    have hb5 := p2.setCells [.int .i64 vk, .int .i64 vn, .string vs, .slice D1 vids.length f1, .slice D2 vls.length f2] rfl
    have hw5' := below_setCells (g := (w.heap.size + 1)) (by go_light; omega) [.int .i64 vk, .int .i64 vn, .string vs, .slice D1 vids.length f1, .slice D2 vls.length f2] 0 _ hw5
    have hrd : RVal (New w) (setCells w5 (w.heap.size + 1) 0 [.int .i64 vk, .int .i64 vn, .string vs, .slice D1 vids.length f1, .slice D2 vls.length f2]) [.int .i64 vk, .int .i64 vn, .string vs, .slice D1 vids.length f1, .slice D2 vls.length f2] (.mk vk vn vs vids vls) :=
     RVal.fair.mono (RVal.fair.keep Hr5.out (Keep.setCells (by have := Hl2.out; unfold New; go_light; omega) _ _ _)) (fun y hy _ => by have := Hsz3.out; unfold New at *; go_light; omega)
    generalize setCells w5 (w.heap.size + 1) 0 _ = W5 at hb5 hw5' hrd ⊢
    rw [Hr.out]
    exact bodyPost_ret (Least_results hb5 rfl rfl) rfl ⟨_, rfl, hrd, hw5'⟩
 ·have hgb : (gd != 0) = true := by simpa using hg
  rw [if_pos hg] at Hr
  have Hno := Hr
  clear hg
  go_wp2_with fail
  change bodyPost _ _ _ _ _ (setCells w3 (w.heap.size + 1) 0 [.int .i64 0, .int .i64 0, .string ⟨#[]⟩, .slice none 0 0, .slice none 0 0])
  have hb5 := v2.setCells [.int .i64 0, .int .i64 0, .string ⟨#[]⟩, .slice none 0 0, .slice none 0 0] rfl
  have hw5 := below_setCells (g := (w.heap.size + 1)) (by go_light; omega) [.int .i64 0, .int .i64 0, .string ⟨#[]⟩, .slice none 0 0, .slice none 0 0] 0 _ hw3
  generalize setCells w3 (w.heap.size + 1) 0 _ = W5 at hb5 hw5 ⊢
  rw [Hno.out]
  exact bodyPost_ret (Least_results hb5 rfl rfl) rfl ⟨_, rfl, RVal.zero, hw5⟩
end Go.Proofs.YtfidfakcbjoilaaDoor
