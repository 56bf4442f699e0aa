/- The walk of value.Typed. -/
import Derived.Test.YtfidfakcbjoilaaGreatDoorValueTyped
import Derived.Test.YtfidfakcbjoilaaGreatDoorVLaws
set_option linter.all false
set_option maxRecDepth 100000
set_option maxHeartbeats 8000000
namespace Go.Proofs.YtfidfakcbjoilaaGreatDoor
open Go.RowKit
theorem noneB_eq (b : BookD) (name : ByteArray) : noneB b name = (!(findT b name).isSome || (typeOf b name).enum) := by
 unfold noneB typeOf
 cases h : findT b name <;> rfl
theorem vTyped_any (S S' : Nat → Prop) (vb : Value) (b : BookD) (name : ByteArray) (cs : List Value) (v : ValueD) (w : World) (hb0 : RSl 5 96 RType S w [vb] b) (hr : RVal S' w cs v) (hW : Words w) (hB : BookOk b) (hok : okV v) (hd : depthV v ≤ 4611686018427387904) (hc : countV v ≤ 4611686018427387904) :
  Calls Tryz.prog 30 #[.agg #[vb], .string name, .agg cs.toArray] w (Ret w (.int .i64 (TypedF b name v))) := by
 obtain ⟨A, cap, rfl, hlc, hlb⟩ := hb0.form
 obtain ⟨r, hrr⟩ : ∃ r, r = TypedF b name v := ⟨_, rfl⟩
 have Hr := Lib.hid (show r = if goodF b ≠ 0 then 1 else if noneB b name = true then 3 else if smallF v = false then 7 else typedF b (typeOf b name) v from hrr)
 rw [← hrr]
 have Hsm := Lib.hid (fun W (h : RVal S' W cs v) => small_any S' cs v W h hd hc)
 have Hty := Lib.hid (fun W cst (h0 : RSl 5 96 RType S W [.slice A b.length cap] b) (h1 : RType S W cst (typeOf b name)) (h2 : RVal S' W cs v) => typed_any S S' (.slice A b.length cap) b (depthV v) cst cs (typeOf b name) v W (Nat.le_refl _) h0 h1 h2 hok)
 obtain ⟨sm, hsm⟩ : ∃ sm, sm = smallF v := ⟨_, rfl⟩
 obtain ⟨tf, htf⟩ : ∃ tf, tf = typedF b (typeOf b name) v := ⟨_, rfl⟩
 rw [← hsm] at Hsm Hr
 rw [← htf] at Hty Hr
 rw [noneB_eq] at Hr
 obtain ⟨gd, hgd⟩ : ∃ gd, gd = goodF b := ⟨_, rfl⟩
 have Hgood := Lib.hid (fun W (h0 : RSl 5 96 RType S W [.slice A b.length cap] b) (h1 : Words W) => good_any S _ b W h0 h1 hB)
 rw [← hgd] at Hgood Hr
 have HB := Lib.hid hb0
 have HW := Lib.hid hW
 have HV := Lib.hid hr
 obtain ⟨kind, n, s, ids, l⟩ := v
 obtain ⟨I1, d1, I2, d2, rfl, _, _⟩ := hr.parts
 obtain ⟨x1, x2, x3⟩ := boxes2 w [.slice A b.length cap] [.int .i64 kind, .int .i64 n, .string s, .slice I1 ids.length d1, .slice I2 l.length d2] 24 37
 clear hb0 hr hW hB hok hd hc hrr hsm htf hgd
 go_enter Tryz.func30, Tryz.ntmps30
 go_wp2_with fail
 refine (find_any S _ b name _ ((RSl.fair RType.fair).below HB.out x3)).mono ?_
 rintro e w1 ⟨cs3, rfl, hr3, hb1⟩
 obtain ⟨B1, l1, B2, l2, B3, l3, rfl, -, -, -⟩ := hr3.parts
 have hw1 := below_via x3 hb1 x3.size
 have y1 := x1.below hb1 x1.lt
 have y2 := x2.below hb1 x2.lt
 obtain ⟨ty, hty⟩ : ∃ ty, ty = typeOf b name := ⟨_, rfl⟩
 have hty' : (findT b name).getD TypeD.zero = ty := hty.symm
 rw [hty'] at hr3 ⊢
 rw [← hty] at Hty Hr
 obtain ⟨ok, hok⟩ : ∃ ok, ok = (findT b name).isSome := ⟨_, rfl⟩
 rw [← hok] at Hr ⊢
 have hw2 := hw1.alloc hw1.size (.cells #[.string ty.name, .bool ty.enum, .slice B1 ty.fields.length l1, .slice B2 ty.gone.length l2, .slice B3 ty.items.length l3] 46)
 have z1 := y1.alloc (.cells #[.string ty.name, .bool ty.enum, .slice B1 ty.fields.length l1, .slice B2 ty.gone.length l2, .slice B3 ty.items.length l3] 46)
 have z2 := y2.alloc (.cells #[.string ty.name, .bool ty.enum, .slice B1 ty.fields.length l1, .slice B2 ty.gone.length l2, .slice B3 ty.items.length l3] 46)
 have z3 : Box (w1.alloc (.cells #[.string ty.name, .bool ty.enum, .slice B1 ty.fields.length l1, .slice B2 ty.gone.length l2, .slice B3 ty.items.length l3] 46)) w1.heap.size 46 [.string ty.name, .bool ty.enum, .slice B1 ty.fields.length l1, .slice B2 ty.gone.length l2, .slice B3 ty.items.length l3] := Box.new w1 _ _
 have HR3 := Lib.hid (RType.fair.keep hr3 ((Keep.of_below hb1).trans (Keep.alloc S w1 (.cells #[.string ty.name, .bool ty.enum, .slice B1 ty.fields.length l1, .slice B2 ty.gone.length l2, .slice B3 ty.items.length l3] 46))))
 have s0 : w1.cell? ⟨w.heap.size, 0, none⟩ = some (.slice A b.length cap) := y1.cell 0
 have hl1 := y1.lt
 clear hb1 hty hty' hok hr3 x1 x2 x3
 go_wp2_with fail
 refine (Hgood.out _ ((RSl.fair RType.fair).below HB.out hw2) (HW.out.below hw2)).mono ?_
 rintro e w3 ⟨rfl, hb3⟩
 have hw3 := below_via hw2 hb3 hw2.size
 have v1 := z1.below hb3 z1.lt
 have v2 := z2.below hb3 z2.lt
 have v3 := z3.below hb3 z3.lt
 have HR4 := Lib.hid (RType.fair.keep HR3.out (Keep.of_below hb3))
 obtain ⟨t0, t1, t2, t3, t4⟩ := v3.five
 obtain ⟨u0, u1, u2, u3, u4⟩ := v2.five
 have hl3 := v3.lt
 have hl2 := v2.lt
 clear hb3 z1 z2 z3 HR3 hw2 s0 hl1
 by_cases hg : gd = 0
 ·subst hg
  rw [if_neg (by simp)] at Hr
  obtain ⟨tyn, tye, tyf, tyg, tyi⟩ := ty
  dsimp only at Hr t0 t1 t2 t3 t4
  cases ok with
  | false =>
   simp only [Bool.not_false, Bool.true_or, if_true] at Hr
   go_wp2_with fail
   go_ret
   exact ⟨ret_i (by rw [Hr.out]), hw3⟩
  | true =>
   cases tye with
   | true =>
    simp only [Bool.not_true, Bool.false_or, if_true] at Hr
    go_wp2_with fail
    go_ret
    exact ⟨ret_i (by rw [Hr.out]), hw3⟩
   | false =>
    simp only [Bool.not_true, Bool.false_or, Bool.false_eq_true, if_false] at Hr
    go_wp2_with fail
    refine (Hsm.out _ (RVal.fair.below HV.out hw3)).mono ?_
    rintro e w5 ⟨rfl, hb5⟩
    have hw5 := below_via hw3 hb5 hw3.size
    have p1 := v1.below hb5 v1.lt
    have p2 := v2.below hb5 v2.lt
    have p3 := v3.below hb5 v3.lt
    obtain ⟨t0', t1', t2', t3', t4'⟩ := p3.five
    obtain ⟨u0', u1', u2', u3', u4'⟩ := p2.five
    have hl3' := p3.lt
    have hl2' := p2.lt
    have s0 : w5.cell? ⟨w.heap.size, 0, none⟩ = some (.slice A b.length cap) := p1.cell 0
    have hl1 := p1.lt
    have HR5 := Lib.hid (RType.fair.keep HR4.out (Keep.of_below hb5))
    clear hb5 t0 t1 t2 t3 t4 u0 u1 u2 u3 u4 HR4
    cases sm with
    | false =>
     simp only [if_true] at Hr
     go_wp2_with fail
     go_ret
     exact ⟨ret_i (by rw [Hr.out]), hw5⟩
    | true =>
     simp only [Bool.true_eq_false, if_false] at Hr
     go_wp2_with fail
     refine (Hty.out _ _ ((RSl.fair RType.fair).below HB.out hw5) HR5.out (RVal.fair.below HV.out hw5)).mono ?_
     rintro e w6 ⟨rfl, hb6⟩
     go_wp2_with fail
     go_ret
     exact ⟨ret_i (by rw [Hr.out]), below_via hw5 hb6 hw5.size⟩
 ·have hgb : (gd != 0) = true := by simpa using hg
  rw [if_pos hg] at Hr
  clear hg
  go_wp2_with fail
  go_ret
  exact ⟨ret_i (by rw [Hr.out]), hw3⟩
end Go.Proofs.YtfidfakcbjoilaaGreatDoor
