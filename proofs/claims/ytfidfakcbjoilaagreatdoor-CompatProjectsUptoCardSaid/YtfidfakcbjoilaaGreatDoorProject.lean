/- The walk of compat.Project. -/
import Derived.Test.YtfidfakcbjoilaaGreatDoorProjRec
import Derived.Test.YtfidfakcbjoilaaGreatDoorFlawsWalk
import Derived.Test.YtfidfakcbjoilaaGreatDoorValueTypedF
import Derived.Test.YtfidfakcbjoilaaGreatDoorValueSmall
set_option linter.all false
set_option maxRecDepth 100000
set_option maxHeartbeats 8000000
namespace Go.Proofs.YtfidfakcbjoilaaGreatDoor
open Go.RowKit
theorem even_typed {b : BookD} (hg : goodF b = 0) : ∀ (d : Nat) (v : ValueD) (t : TypeD), MessageP b t → typedF b t v = 0 → EvenN d v
 | 0, _, _, _, _ => trivial
 | d + 1, .mk kind n s ids l, t, hm, ht => by
  obtain ⟨a1, a2, a3, a4, a5, a6, a7, a8⟩ := (typedF_iff b t _).1 ht
  simp only [ValueD.kind, ValueD.ids, ValueD.l, ValueD.n, ValueD.s] at a1 a2 a3 a4 a5 a6 a7 a8
  refine ⟨a2, fun x hx => ?_⟩
  obtain ⟨i, hi, rfl⟩ := List.getElem_of_mem (show x ∈ l from hx)
  have hz : (ids[i]'(by omega), l[i]) ∈ ids.zip l := List.mem_iff_getElem.2 ⟨i, by simp; omega, by simp⟩
  have hfit := a7 _ hz
  obtain ⟨f, hff⟩ := Option.isSome_iff_exists.1 (a5 (ids[i]'(by omega)) (List.getElem_mem _))
  unfold FitP at hfit
  simp only [hff, Option.getD_some] at hfit
  have hf := msg_field hm (fieldOf_some hff).1
  by_cases h5 : f.kind = 5
  ·obtain ⟨t2, _, h2, _, _, _, hm2⟩ := field_msg hg hf h5
   exact even_typed hg d l[i] t2 hm2 (h2 ▸ hfit.2 h5)
  ·obtain ⟨hk, ho⟩ := fits_kind hfit.1
   obtain ⟨o1, _, _⟩ := odd_iff.1 ho
   have hk2 : l[i].kind ≠ 2 := by
    by_cases h3 : f.kind = 3
    ·rw [hk, kindOf, if_pos h3]; decide
    ·rw [hk, kindOf, if_neg h3, if_neg h5]; decide
   obtain ⟨e1, e2⟩ := o1 hk2
   cases d with
   | zero => trivial
   | succ d => exact ⟨by show (l[i]).ids.length = (l[i]).l.length; rw [e1, e2]; rfl, fun y hy => by rw [show (l[i]).l = [] from e2] at hy; cases hy⟩
def ProjPost (S' : Nat → Prop) (w : World) (r : ValueD × Int) (e : Ending) (w' : World) : Prop := ∃ cs, e = .returned (.tuple #[.agg cs.toArray, .int .i64 r.2]) ∧ RVal (Un S' w) w' cs r.1 ∧ Below w.heap.size w w'
theorem Project_results {W : World} {a : Act} {g : Nat} {c0 c1 c2 c3 c4 : Value} {n : Int} (hb : Box W g 37 [c0, c1, c2, c3, c4]) (h4 : a.tmps.getD 8 undef = .pointer (some ⟨g, 0, none⟩)) (h5 : a.tmps.getD 9 undef = .int .i64 n) :
  (results Tryz.f11 a.tmps).run Tryz.prog W = .ok (.tuple #[.agg #[c0, c1, c2, c3, c4], .int .i64 n]) W := by
 obtain ⟨e0, e1, e2, e3, e4⟩ := hb.five
 simp only [Array.getD_eq_getD_getElem?] at h4 h5
 simp [results, Tryz.results11, go_sem, h4, h5, e0, e1, e2, e3, e4]
theorem project_any (S S' : Nat → Prop) (vw vr : Value) (bw br : BookD) (name : ByteArray) (cs : List Value) (v : ValueD) (w : World) (hb1 : RSl 5 96 RType S w [vw] bw) (hb2 : RSl 5 96 RType S w [vr] br) (hr : RVal S' w cs v) (hW : Words w) (o1 : BookOk bw) (o2 : BookOk br) (hok : okV v)
  (hd : depthV v ≤ 4611686018427387904) (hc : countV v ≤ 4611686018427387904) :
  Calls Tryz.prog 11 #[.agg #[vw], .agg #[vr], .string name, .agg cs.toArray] w (ProjPost S' w (projF bw br name v)) := by
 obtain ⟨AW, cw, rfl, -, -⟩ := hb1.form
 obtain ⟨AR, cr, rfl, -, -⟩ := hb2.form
 obtain ⟨r, hrr⟩ : ∃ r, r = projF bw br name v := ⟨_, rfl⟩
 have hr0 : r = if bothF bw br name ≠ 0 then (.zero, bothF bw br name) else if TypedF bw name v ≠ 0 then (.zero, TypedF bw name v) else if (flawsF bw br name).1 ≠ [] then (.zero, 8)
  else if smallF (projV br (depthV v) (typeOf br name) v) = false then (.zero, 7) else (projV br (depthV v) (typeOf br name) v, 0) := hrr
 rw [← hrr]
 have hbo := fun W (h : Below w.heap.size w W) => both_any S _ _ bw br name W ((RSl.fair RType.fair).below hb1 h) ((RSl.fair RType.fair).below hb2 h) (hW.below h) o1 o2
 have hty := fun W (h : Below w.heap.size w W) => vTyped_any S S' _ bw name cs v W ((RSl.fair RType.fair).below hb1 h) (RVal.fair.below hr h) (hW.below h) o1 hok hd hc
 have hfl := fun W (h : Below w.heap.size w W) => flaws_any S _ _ bw br name W ((RSl.fair RType.fair).below hb1 h) ((RSl.fair RType.fair).below hb2 h) (hW.below h) o1 o2
 have hpr : bothF bw br name = 0 → TypedF bw name v = 0 → (flawsF bw br name).1 = [] → (∀ W (_ : Below w.heap.size w W), Calls Tryz.prog 31 #[.agg #[.slice AR br.length cr], .string name, .agg cs.toArray] W (ValUn (fun y => S' y ∧ y < w.heap.size) W (projV br (depthV v) (typeOf br name) v))) ∧ countV (projV br (depthV v) (typeOf br name) v) ≤ 240012 ∧ depthV (projV br (depthV v) (typeOf br name) v) ≤ 29 := fun h1 h2 h3 => by
  obtain ⟨q1, q2, q3, q4⟩ := bothF_ok h1
  obtain ⟨g1, g2, g3, g4⟩ := TypedF_ok h2
  refine ⟨fun W h => ?_, proj_size h1 h3 h2⟩
  obtain ⟨t, _, e2, hm, _, he⟩ := noneB_type q3
  exact proj_any S _ br q2 o2 (depthV v) (fun y => S' y ∧ y < w.heap.size) name cs v W (Nat.le_refl _) ((RSl.fair RType.fair).below hb2 h) (RVal.fair.below (RVal.fair.mono hr (fun y hy hl => ⟨hy, hl⟩)) h) (hW.below h) q4 (even_typed q1 _ v t (good_msg q1 hm he) (by rw [← e2]; exact g4)) (small_iff.1 g3).2
 obtain ⟨bo, hbo0⟩ : ∃ x, x = bothF bw br name := ⟨_, rfl⟩
 obtain ⟨ty, hty0⟩ : ∃ x, x = TypedF bw name v := ⟨_, rfl⟩
 obtain ⟨fl, hfl0⟩ : ∃ x, x = flawsF bw br name := ⟨_, rfl⟩
 obtain ⟨pv, hpv0⟩ : ∃ x, x = projV br (depthV v) (typeOf br name) v := ⟨_, rfl⟩
 rw [← hbo0] at hbo hr0 hpr
 rw [← hty0] at hty hr0 hpr
 rw [← hfl0] at hfl hr0 hpr
 rw [← hpv0] at hr0 hpr
 have Hr := Lib.hid hr0
 have Hbo := Lib.hid hbo
 have Hty := Lib.hid hty
 have Hfl := Lib.hid hfl
 have Hpr := Lib.hid hpr
 obtain ⟨kind, n, s, ids, l⟩ := v
 obtain ⟨I1, d1, I2, d2, rfl, -, -⟩ := hr.parts
 obtain ⟨x1, x2, x3, x4, x5⟩ := boxes4 w [.slice AW bw.length cw] [.slice AR br.length cr] [.int .i64 kind, .int .i64 n, .string s, .slice I1 ids.length d1, .slice I2 l.length d2] [.int .i64 0, .int .i64 0, .string ⟨#[]⟩, .slice none 0 0, .slice none 0 0] 24 24 37 37
 clear hb1 hb2 hr hW o1 o2 hok hd hc hrr hr0 hbo hty hfl hpr hbo0 hty0 hfl0 hpv0
 have z1 := x1.cell 0
 have z2 := x2.cell 0
 have l1 := x1.lt
 have l2 := x2.lt
 go_enter Tryz.func11, Tryz.ntmps11
 go_wp2_with fail
 refine (Hbo.out _ x5).mono ?_
 rintro e w1 ⟨rfl, hb1⟩
 have y1 := x1.below hb1 x1.lt
 have y2 := x2.below hb1 x2.lt
 have y3 := x3.below hb1 x3.lt
 have y4 := x4.below hb1 x4.lt
 have hw1 := below_via x5 hb1 x5.size
 clear x1 x2 x3 x4 x5 hb1 z1 z2 l1 l2 Hbo
 by_cases hbo : bo = 0
 ·subst hbo
  rw [if_neg (by simp)] at Hr
  have z1 := y1.cell 0
  have l1 := y1.lt
  obtain ⟨u0, u1, u2, u3, u4⟩ := y3.five
  have l3 := y3.lt
  go_wp2_with fail
  refine (Hty.out _ hw1).mono ?_
  rintro e w2 ⟨rfl, hb2⟩
  clear z1 l1 u0 u1 u2 u3 u4 l3
  have v1 := y1.below hb2 y1.lt
  have v2 := y2.below hb2 y2.lt
  have v3 := y3.below hb2 y3.lt
  have v4 := y4.below hb2 y4.lt
  have hw2 := below_via hw1 hb2 hw1.size
  clear y1 y2 y3 y4 hb2 hw1 Hty
  by_cases hty : ty = 0
  ·subst hty
   rw [if_neg (by simp)] at Hr
   have z1 := v1.cell 0
   have z2 := v2.cell 0
   have l1 := v1.lt
   have l2 := v2.lt
   go_wp2_with fail
   refine (Hfl.out _ hw2).mono ?_
   rintro e w3 ⟨vf, rfl, hrf, hb3⟩
   obtain ⟨AF, cf, rfl, -, -⟩ := hrf.form
   clear z1 z2 l1 l2
   have y1 := v1.below hb3 v1.lt
   have y2 := v2.below hb3 v2.lt
   have y3 := v3.below hb3 v3.lt
   have y4 := v4.below hb3 v4.lt
   have hw3 := below_via hw2 hb3 hw2.size
   obtain ⟨f, c⟩ := fl
   dsimp only at Hr Hpr ⊢
   clear v1 v2 v3 v4 hb3 hw2 Hfl hrf
   by_cases hf : f = []
   ·subst hf
    rw [if_neg (by simp)] at Hr
    have Hrun := Lib.hid (Hpr.out (by simp) (by simp) (by simp))
    have z2 := y2.cell 0
    have l2 := y2.lt
    obtain ⟨u0, u1, u2, u3, u4⟩ := y3.five
    have l3 := y3.lt
    clear Hpr
    go_wp2_with fail
    refine (Hrun.out.1 _ hw3).mono ?_
    rintro e w4 ⟨cs4, rfl, hr4, hb4⟩
    clear z2 l2 u0 u1 u2 u3 u4 l3
    obtain ⟨pk, pn, ps, pi, pl⟩ := pv
    obtain ⟨E1, f1, E2, f2, rfl, -, -⟩ := hr4.parts
    have hr5 := RVal.fair.keep hr4 (Keep.alloc _ w4 (.cells [.int .i64 pk, .int .i64 pn, .string ps, .slice E1 pi.length f1, .slice E2 pl.length f2].toArray 37))
    have hw4 := below_via hw3 hb4 hw3.size
    have hw5 := hw4.alloc hw4.size (.cells [.int .i64 pk, .int .i64 pn, .string ps, .slice E1 pi.length f1, .slice E2 pl.length f2].toArray 37)
    have zp : Box (w4.alloc (.cells [.int .i64 pk, .int .i64 pn, .string ps, .slice E1 pi.length f1, .slice E2 pl.length f2].toArray 37)) w4.heap.size 37 [.int .i64 pk, .int .i64 pn, .string ps, .slice E1 pi.length f1, .slice E2 pl.length f2] := Box.new w4 _ _
    have v4 := (y4.below hb4 y4.lt).alloc (.cells [.int .i64 pk, .int .i64 pn, .string ps, .slice E1 pi.length f1, .slice E2 pl.length f2].toArray 37)
    have hR8 : ¬ Un (fun y => S' y ∧ y < w.heap.size) w3 (w.heap.size + 1 + 1 + 1) := by
     have := y4.lt
     rintro (h | h)
     ·have := h.2; omega
     ·omega
    have Hup := Lib.hid (fun y (hy : Un (fun y => S' y ∧ y < w.heap.size) w3 y) => (show Un S' w y from hy.elim (fun h => .inl h.1) (fun h => .inr (Nat.le_trans hw3.size h))))
    have hnp : (w.heap.size + 1 + 1 + 1) < w4.heap.size := (y4.below hb4 y4.lt).lt
    have hsz := Lib.hid (fun W (h : RVal (Un (fun y => S' y ∧ y < w.heap.size) w3) W [.int .i64 pk, .int .i64 pn, .string ps, .slice E1 pi.length f1, .slice E2 pl.length f2] (.mk pk pn ps pi pl)) => size_any _ _ _ (.mk pk pn ps pi pl) W (Nat.le_refl _) h (by have := Hrun.out.2; omega) (by have := Hrun.out.2; omega))
    have Hr6 := Lib.hid hr5
    have Hsm : Hid (smallF (.mk pk pn ps pi pl) = decide (depthV (.mk pk pn ps pi pl) ≤ 24 ∧ countV (.mk pk pn ps pi pl) ≤ 400)) := rfl
    obtain ⟨sm, hsm⟩ : ∃ x, x = smallF (.mk pk pn ps pi pl) := ⟨_, rfl⟩
    rw [← hsm] at Hr Hsm
    obtain ⟨dd, hdd⟩ : ∃ x, x = depthV (.mk pk pn ps pi pl) := ⟨_, rfl⟩
    obtain ⟨cc, hcc⟩ : ∃ x, x = countV (.mk pk pn ps pi pl) := ⟨_, rfl⟩
    rw [← hdd, ← hcc] at Hsm hsz
    obtain ⟨c0, c1, c2, c3, c4⟩ := zp.five
    have lp := zp.lt
    clear hr4 hr5 hb4 y1 y2 y3 y4 hw3 hw4 hsm hdd hcc Hrun
    go_upto_region 11 with fail
    generalize w4.heap.size = P at zp hnp c0 c1 c2 c3 c4 lp ⊢
    generalize w4.alloc _ = W4 at zp v4 hw5 Hr6 c0 c1 c2 c3 c4 lp ⊢
    go_wp2_with fail
    refine (hsz.out _ Hr6.out).mono ?_
    rintro e w6 ⟨rfl, hb6⟩
    have zp6 := zp.below hb6 zp.lt
    have v6 := v4.below hb6 v4.lt
    have hw6 := below_via hw5 hb6 hw5.size
    have Hr7 := Lib.hid (RVal.fair.below Hr6.out hb6)
    clear c0 c1 c2 c3 c4 lp zp v4 hw5 Hr6 hb6 hsz
    by_cases hsmall : dd ≤ 24 ∧ cc ≤ 400
    ·have Hno : Hid (r = (.mk pk pn ps pi pl, 0)) := by show _ = _; rw [Hr.out, Hsm.out, if_neg (by simp [hsmall])]
     obtain ⟨h1, h2⟩ := hsmall
     have hd' : ¬ ((24 : Int) < (dd : Int)) := by omega
     have hc' : ¬ ((400 : Int) < (cc : Int)) := by omega
     obtain ⟨c0, c1, c2, c3, c4⟩ := zp6.five
     have lp := zp6.lt
     obtain ⟨r0, r1, r2, r3, r4⟩ := v6.five
     have g0 := v6.frozen 0
     have g1 := v6.frozen 1
     have g2 := v6.frozen 2
     have g3 := v6.frozen 3
     have g4 := v6.frozen 4
     have hlr := v6.lt
     clear h1 h2
     go_wp2_with fail
     change bodyPost _ _ _ _ _ (setCells w6 (w.heap.size + 1 + 1 + 1) 0 [.int .i64 pk, .int .i64 pn, .string ps, .slice E1 pi.length f1, .slice E2 pl.length f2])
     have hb5 := v6.setCells [.int .i64 pk, .int .i64 pn, .string ps, .slice E1 pi.length f1, .slice E2 pl.length f2] rfl
     have hw7 := below_setCells (g := (w.heap.size + 1 + 1 + 1)) (by go_light; omega) [.int .i64 pk, .int .i64 pn, .string ps, .slice E1 pi.length f1, .slice E2 pl.length f2] 0 _ hw6
     have hrd : RVal (Un S' w) (setCells w6 (w.heap.size + 1 + 1 + 1) 0 [.int .i64 pk, .int .i64 pn, .string ps, .slice E1 pi.length f1, .slice E2 pl.length f2]) [.int .i64 pk, .int .i64 pn, .string ps, .slice E1 pi.length f1, .slice E2 pl.length f2] (.mk pk pn ps pi pl) := RVal.fair.mono (RVal.fair.keep Hr7.out (Keep.setCells hR8 _ _ _)) (fun y hy _ => Hup.out y hy)
     generalize setCells w6 (w.heap.size + 1 + 1 + 1) 0 _ = W5 at hb5 hw7 hrd ⊢
     rw [Hno.out]
     exact bodyPost_ret (Project_results hb5 rfl rfl) rfl ⟨_, rfl, hrd, hw7⟩
    ·have Hno : Hid (r = (.zero, 7)) := by show _ = _; rw [Hr.out, Hsm.out, if_pos (by simpa using hsmall)]
     by_cases hd1 : dd ≤ 24
     ·have hd' : ¬ ((24 : Int) < (dd : Int)) := by omega
      have hc' : (400 : Int) < (cc : Int) := by
       have : ¬ cc ≤ 400 := fun h => hsmall ⟨hd1, h⟩
       omega
      clear hsmall hd1
      obtain ⟨r0, r1, r2, r3, r4⟩ := v6.five
      have g0 := v6.frozen 0
      have g1 := v6.frozen 1
      have g2 := v6.frozen 2
      have g3 := v6.frozen 3
      have g4 := v6.frozen 4
      have hlr := v6.lt
      go_wp2_with fail
      change bodyPost _ _ _ _ _ (setCells w6 (w.heap.size + 1 + 1 + 1) 0 [.int .i64 0, .int .i64 0, .string ⟨#[]⟩, .slice none 0 0, .slice none 0 0])
      have hb5 := v6.setCells [.int .i64 0, .int .i64 0, .string ⟨#[]⟩, .slice none 0 0, .slice none 0 0] rfl
      have hw5 := below_setCells (g := (w.heap.size + 1 + 1 + 1)) (by go_light; omega) [.int .i64 0, .int .i64 0, .string ⟨#[]⟩, .slice none 0 0, .slice none 0 0] 0 _ hw6
      generalize setCells w6 (w.heap.size + 1 + 1 + 1) 0 _ = W5 at hb5 hw5 ⊢
      rw [Hno.out]
      exact bodyPost_ret (Project_results hb5 rfl rfl) rfl ⟨_, rfl, RVal.zero, hw5⟩
     ·have hd' : (24 : Int) < (dd : Int) := by omega
      clear hsmall hd1
      obtain ⟨r0, r1, r2, r3, r4⟩ := v6.five
      have g0 := v6.frozen 0
      have g1 := v6.frozen 1
      have g2 := v6.frozen 2
      have g3 := v6.frozen 3
      have g4 := v6.frozen 4
      have hlr := v6.lt
      go_wp2_with fail
      change bodyPost _ _ _ _ _ (setCells w6 (w.heap.size + 1 + 1 + 1) 0 [.int .i64 0, .int .i64 0, .string ⟨#[]⟩, .slice none 0 0, .slice none 0 0])
      have hb5 := v6.setCells [.int .i64 0, .int .i64 0, .string ⟨#[]⟩, .slice none 0 0, .slice none 0 0] rfl
      have hw5 := below_setCells (g := (w.heap.size + 1 + 1 + 1)) (by go_light; omega) [.int .i64 0, .int .i64 0, .string ⟨#[]⟩, .slice none 0 0, .slice none 0 0] 0 _ hw6
      generalize setCells w6 (w.heap.size + 1 + 1 + 1) 0 _ = W5 at hb5 hw5 ⊢
      rw [Hno.out]
      exact bodyPost_ret (Project_results hb5 rfl rfl) rfl ⟨_, rfl, RVal.zero, hw5⟩
   ·have Hno : Hid (r = (.zero, 8)) := by show _ = _; rw [Hr.out, if_pos hf]
    have hfb : 0 < f.length := List.length_pos_iff.2 hf
    clear hf
    obtain ⟨r0, r1, r2, r3, r4⟩ := y4.five
    have g0 := y4.frozen 0
    have g1 := y4.frozen 1
    have g2 := y4.frozen 2
    have g3 := y4.frozen 3
    have g4 := y4.frozen 4
    have hlr := y4.lt
    go_wp2_with fail
    change bodyPost _ _ _ _ _ (setCells w3 (w.heap.size + 1 + 1 + 1) 0 [.int .i64 0, .int .i64 0, .string ⟨#[]⟩, .slice none 0 0, .slice none 0 0])
    have hb5 := y4.setCells [.int .i64 0, .int .i64 0, .string ⟨#[]⟩, .slice none 0 0, .slice none 0 0] rfl
    have hw5 := below_setCells (g := (w.heap.size + 1 + 1 + 1)) (by go_light; omega) [.int .i64 0, .int .i64 0, .string ⟨#[]⟩, .slice none 0 0, .slice none 0 0] 0 _ hw3
    generalize setCells w3 (w.heap.size + 1 + 1 + 1) 0 _ = W5 at hb5 hw5 ⊢
    rw [Hno.out]
    exact bodyPost_ret (Project_results hb5 rfl rfl) rfl ⟨_, rfl, RVal.zero, hw5⟩
  ·have Hno : Hid (r = (.zero, ty)) := by show _ = _; rw [Hr.out, if_pos hty]
   have hcb : (ty != 0) = true := by simpa using hty
   clear hty
   obtain ⟨r0, r1, r2, r3, r4⟩ := v4.five
   have g0 := v4.frozen 0
   have g1 := v4.frozen 1
   have g2 := v4.frozen 2
   have g3 := v4.frozen 3
   have g4 := v4.frozen 4
   have hlr := v4.lt
   go_wp2_with fail
   change bodyPost _ _ _ _ _ (setCells w2 (w.heap.size + 1 + 1 + 1) 0 [.int .i64 0, .int .i64 0, .string ⟨#[]⟩, .slice none 0 0, .slice none 0 0])
   have hb5 := v4.setCells [.int .i64 0, .int .i64 0, .string ⟨#[]⟩, .slice none 0 0, .slice none 0 0] rfl
   have hw5 := below_setCells (g := (w.heap.size + 1 + 1 + 1)) (by go_light; omega) [.int .i64 0, .int .i64 0, .string ⟨#[]⟩, .slice none 0 0, .slice none 0 0] 0 _ hw2
   generalize setCells w2 (w.heap.size + 1 + 1 + 1) 0 _ = W5 at hb5 hw5 ⊢
   rw [Hno.out]
   exact bodyPost_ret (Project_results hb5 rfl rfl) rfl ⟨_, rfl, RVal.zero, hw5⟩
 ·have Hno : Hid (r = (.zero, bo)) := by show _ = _; rw [Hr.out, if_pos hbo]
  have hcb : (bo != 0) = true := by simpa using hbo
  clear hbo
  obtain ⟨r0, r1, r2, r3, r4⟩ := y4.five
  have g0 := y4.frozen 0
  have g1 := y4.frozen 1
  have g2 := y4.frozen 2
  have g3 := y4.frozen 3
  have g4 := y4.frozen 4
  have hlr := y4.lt
  go_wp2_with fail
  change bodyPost _ _ _ _ _ (setCells w1 (w.heap.size + 1 + 1 + 1) 0 [.int .i64 0, .int .i64 0, .string ⟨#[]⟩, .slice none 0 0, .slice none 0 0])
  have hb5 := y4.setCells [.int .i64 0, .int .i64 0, .string ⟨#[]⟩, .slice none 0 0, .slice none 0 0] rfl
  have hw5 := below_setCells (g := (w.heap.size + 1 + 1 + 1)) (by go_light; omega) [.int .i64 0, .int .i64 0, .string ⟨#[]⟩, .slice none 0 0, .slice none 0 0] 0 _ hw1
  generalize setCells w1 (w.heap.size + 1 + 1 + 1) 0 _ = W5 at hb5 hw5 ⊢
  rw [Hno.out]
  exact bodyPost_ret (Project_results hb5 rfl rfl) rfl ⟨_, rfl, RVal.zero, hw5⟩
end Go.Proofs.YtfidfakcbjoilaaGreatDoor
