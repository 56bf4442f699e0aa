/- The walk of the statement CompatWitness. -/
import Derived.Test.YtfidfakcbjoilaaDoorWitness
import Derived.Test.YtfidfakcbjoilaaDoorLawCompat
set_option linter.all false
set_option maxRecDepth 100000
set_option maxHeartbeats 8000000
namespace Go.Proofs.YtfidfakcbjoilaaDoor
open Go.RowKit
theorem okV_of {b : BookD} (hg : goodF b = 0) : ∀ (d : Nat) (v : ValueD) (t : TypeD), depthV v ≤ d → MessageP b t → typedF b t v = 0 → okV v
 | 0, .mk _ _ _ _ _, _, hd, _, _ => by rw [depthV] at hd; omega
 | d + 1, .mk kind n s ids l, t, hd, hm, ht => by
  obtain ⟨a1, a2, a3, a4, a5, a6, a7, a8⟩ := (typedF_iff b t _).1 ht
  simp only [ValueD.kind, ValueD.ids, ValueD.l, ValueD.n, ValueD.s] at a1 a2 a3 a4 a5 a6 a7 a8
  rw [depthV] at hd
  rw [okV]
  refine ⟨by omega, okL_of fun x hx => ?_⟩
  obtain ⟨i, hi, rfl⟩ := List.getElem_of_mem hx
  have hz : (ids[i]'(by omega), l[i]) ∈ ids.zip l := List.mem_iff_getElem.2 ⟨i, by simp; omega, by simp⟩
  have hfit := a7 _ hz
  obtain ⟨f, hff⟩ := Option.isSome_iff_exists.1 (a5 (ids[i]'(by omega)) (List.getElem_mem _))
  unfold FitP at hfit
  simp only [hff, Option.getD_some] at hfit
  have hf := msg_field hm (fieldOf_some hff).1
  have hdx := depthL_mem' hx
  by_cases h5 : f.kind = 5
  ·obtain ⟨t2, _, h2, _, _, _, hm2⟩ := field_msg hg hf h5
   exact okV_of hg d l[i] t2 (by omega) hm2 (h2 ▸ hfit.2 h5)
  ·obtain ⟨hk, ho⟩ := fits_kind hfit.1
   obtain ⟨o1, o2, o3⟩ := odd_iff.1 ho
   generalize hxe : l[i] = x at *
   obtain ⟨xk, xn, xs, xi, xl⟩ := x
   simp only [ValueD.kind, ValueD.ids, ValueD.l, ValueD.n, ValueD.s] at hk o1 o2 o3
   have hk2 : xk ≠ 2 := by
    by_cases h3 : f.kind = 3
    ·rw [hk, kindOf, if_pos h3]; decide
    ·rw [hk, kindOf, if_neg h3, if_neg h5]; decide
   obtain ⟨rfl, rfl⟩ := o1 hk2
   rw [okV]
   refine ⟨?_, trivial⟩
   by_cases h1 : xk = 1
   ·have h3 : f.kind = 3 := by
     by_cases h3 : f.kind = 3
     ·exact h3
     ·rw [h1, kindOf, if_neg h3, if_neg h5] at hk; simp at hk
    have hp := hfit.1
    unfold fitsF at hp
    rw [if_neg (by simp [ValueD.kind, hk]), if_neg (by rw [ho]; decide), if_neg (by omega), if_neg (by omega), if_pos h3] at hp
    split at hp
    ·rename_i hp1
     unfold plainF at hp1
     have h40 : xs.size ≤ 40 := of_decide_eq_true ((Bool.and_eq_true _ _).mp hp1).2
     omega
    ·simp at hp
   ·have := o3 h1; omega
theorem typed_okV {b : BookD} {name : ByteArray} {v : ValueD} (h : TypedF b name v = 0) : okV v ∧ depthV v ≤ 24 ∧ countV v ≤ 400 := by
 obtain ⟨hg, hn, hs, ht⟩ := TypedF_ok h
 obtain ⟨t, _, e2, hm, _, he⟩ := noneB_type hn
 rw [e2] at ht
 exact ⟨okV_of hg (depthV v) v t (Nat.le_refl _) (good_msg hg hm he) ht, small_iff.1 hs⟩
theorem witness_cases (bw br : BookD) (name : ByteArray) : ((flawsF bw br name).2 ≠ 0 ∧ witnessF bw br name = (.mk 0 0 ⟨#[]⟩ [] [], (flawsF bw br name).2)) ∨ ((flawsF bw br name).2 = 0 ∧ (flawsF bw br name).1 = [] ∧ witnessF bw br name = (.mk 0 0 ⟨#[]⟩ [] [], 3)) ∨
  ((flawsF bw br name).2 = 0 ∧ (flawsF bw br name).1 ≠ [] ∧ (witnessF bw br name).2 = 0 ∧ TypedF bw name (witnessF bw br name).1 = 0 ∧ ∃ dv dc, DecodeF br name (encV (witnessF bw br name).1).1 = (dv, dc) ∧ (dc = 4 ∨ dc = 5 ∨ dc = 6)) := by
 by_cases hb : bothF bw br name = 0
 ·have hc : (flawsF bw br name).2 = 0 := by unfold flawsF; rw [if_neg (by simpa using hb)]
  obtain ⟨h1, h2⟩ := witness_law hb
  by_cases hf : (flawsF bw br name).1 = []
  ·exact .inr (.inl ⟨hc, hf, h1 hf⟩)
  ·obtain ⟨q1, q2, q3⟩ := h2 hf
   exact .inr (.inr ⟨hc, hf, q1, q2, _, _, rfl, q3⟩)
 ·have hc : (flawsF bw br name).2 = bothF bw br name := by unfold flawsF; rw [if_pos hb]
  refine .inl ⟨by rw [hc]; exact hb, ?_⟩
  unfold witnessF
  rw [if_pos hb, hc]; rfl
theorem compatWitness_any (S : Nat → Prop) (vw vr : Value) (bw br : BookD) (name : ByteArray) (w : World) (hb1 : RSl 5 96 RType S w [vw] bw) (hb2 : RSl 5 96 RType S w [vr] br) (hW : Words w) (o1 : BookOk bw) (o2 : BookOk br) :
  Calls Tryd.prog 5 #[.agg #[vw], .agg #[vr], .string name] w (Ret w (.bool true)) := by
 obtain ⟨AW, cw, rfl, -, -⟩ := hb1.form
 obtain ⟨AR, cr, rfl, -, -⟩ := hb2.form
 have hfl := fun W (h : Below w.heap.size w W) => flaws_any S _ _ bw br name W ((RSl.fair RType.fair).below hb1 h) ((RSl.fair RType.fair).below hb2 h) (hW.below h) o1 o2
 have hwt := fun W (h : Below w.heap.size w W) => witness_any S _ _ bw br name W ((RSl.fair RType.fair).below hb1 h) ((RSl.fair RType.fair).below hb2 h) (hW.below h) o1 o2
 have hen : ∀ (v : ValueD) (_ : TypedF bw name v = 0) (S' : Nat → Prop) (cs : List Value) (W : World) (_ : Below w.heap.size w W) (_ : RVal S' W cs v), Calls Tryd.prog 10 #[.agg #[.slice AW bw.length cw], .string name, .agg cs.toArray] W (EncPost W ((encV v).1, 0)) := fun v ht S' cs W h hr => by
  obtain ⟨k1, k2, k3⟩ := typed_okV ht
  have := vEncode_any S S' _ bw name cs v W ((RSl.fair RType.fair).below hb1 h) hr (hW.below h) o1 k1 (by omega) (by omega)
  rw [(EncodeF_ok (b := bw) (name := name) (v := v)).2.2 (by rw [EncodeF_ok.1]; exact ht)] at this
  exact this
 have hdc : ∀ (v : ValueD) (_ : TypedF bw name v = 0) (W : World) (_ : Below w.heap.size w W), Calls Tryd.prog 11 #[.agg #[.slice AR br.length cr], .string name, .string ⟨(encV v).1.toArray⟩] W (ValCode W (DecodeF br name (encV v).1)) := fun v ht W h => by
  obtain ⟨_, q2, _⟩ := value_back ht
  have := vDecode_any S _ br name ⟨(encV v).1.toArray⟩ W ((RSl.fair RType.fair).below hb2 h) (hW.below h) o2 (by unfold maxLen; show (encV v).1.toArray.size ≤ _; simp; omega)
  rw [bytes_of] at this
  exact this
 have hca := witness_cases bw br name
 obtain ⟨fl, hfe⟩ : ∃ x, x = flawsF bw br name := ⟨_, rfl⟩
 obtain ⟨wt, hwe⟩ : ∃ x, x = witnessF bw br name := ⟨_, rfl⟩
 rw [← hfe] at hfl hca
 rw [← hwe] at hwt hca
 obtain ⟨f, c⟩ := fl
 obtain ⟨pv, pc⟩ := wt
 dsimp only at hca
 have Hfl := Lib.hid hfl
 have Hwt := Lib.hid hwt
 have Hen := Lib.hid hen
 have Hdc := Lib.hid hdc
 have Hca := Lib.hid hca
 have HW := Lib.hid hW
 obtain ⟨x1, x2, x5⟩ := boxes2 w [.slice AW bw.length cw] [.slice AR br.length cr] 24 24
 have z1 := x1.cell 0
 have l1 := x1.lt
 have z2 := x2.cell 0
 have l2 := x2.lt
 clear hb1 hb2 hW o1 o2 hfl hwt hen hdc hca hfe hwe
 go_enter Tryd.func5, Tryd.ntmps5
 go_wp2_with fail
 refine (Hfl.out _ x5).mono ?_
 rintro e w1 ⟨vf, rfl, hvf, hb1⟩
 obtain ⟨AF, cf, rfl, -, -⟩ := hvf.form
 have y1 := x1.below hb1 x1.lt
 have y2 := x2.below hb1 x2.lt
 have hw1 := below_via x5 hb1 x5.size
 clear z1 l1 z2 l2 x1 x2 x5 hb1 Hfl hvf
 have z1 := y1.cell 0
 have l1 := y1.lt
 have z2 := y2.cell 0
 have l2 := y2.lt
 go_wp2_with fail
 refine (Hwt.out _ hw1).mono ?_
 rintro e w2 ⟨cs2, rfl, hr2, hb2⟩
 obtain ⟨pk, pn, ps, pi, pl⟩ := pv
 dsimp only at hr2 ⊢
 obtain ⟨E1, f1, E2, f2, rfl, -, -⟩ := hr2.parts
 have hw2 := (below_via hw1 hb2 hw1.size).alloc (below_via hw1 hb2 hw1.size).size (.cells [.int .i64 pk, .int .i64 pn, .string ps, .slice E1 pi.length f1, .slice E2 pl.length f2].toArray 28)
 have v1 := (y1.below hb2 y1.lt).alloc (.cells [.int .i64 pk, .int .i64 pn, .string ps, .slice E1 pi.length f1, .slice E2 pl.length f2].toArray 28)
 have v2 := (y2.below hb2 y2.lt).alloc (.cells [.int .i64 pk, .int .i64 pn, .string ps, .slice E1 pi.length f1, .slice E2 pl.length f2].toArray 28)
 have zp : Box (w2.alloc (.cells [.int .i64 pk, .int .i64 pn, .string ps, .slice E1 pi.length f1, .slice E2 pl.length f2].toArray 28)) w2.heap.size 28 [.int .i64 pk, .int .i64 pn, .string ps, .slice E1 pi.length f1, .slice E2 pl.length f2] := Box.new w2 _ _
 have Hr2 := Lib.hid (RVal.fair.keep hr2 (Keep.alloc _ w2 (.cells [.int .i64 pk, .int .i64 pn, .string ps, .slice E1 pi.length f1, .slice E2 pl.length f2].toArray 28)))
 clear z1 l1 z2 l2 y1 y2 hr2 hb2 hw1 Hwt
 go_upto_region 3 with fail
 generalize w2.heap.size = P at zp ⊢
 generalize w2.alloc _ = W2 at zp v1 v2 hw2 Hr2 ⊢
 have hfin := Lib.hid (finds_any _ (HW.out.below hw2))
 rcases Hca.out with ⟨hc, h⟩ | ⟨rfl, rfl, h⟩ | ⟨rfl, hf, rfl, ht, dv, dc, hd, ho⟩
 ·--[A
  injection h with e1 e2
  injection e1 with q1 q2 q3 q4 q5
  subst q1 q2 q3 q4 q5 e2
  have hcb : (pc != 0) = true := by simpa using hc
  have Hs := Lib.hid (same_any _ (fun _ => False) _ _ _ (.mk 0 0 ⟨#[]⟩ [] []) W2 (Nat.le_refl _) Hr2.out RVal.zero)
  obtain ⟨c0, c1, c2, c3, c4⟩ := zp.five
  have lp := zp.lt
  clear hc Hca Hen Hdc v1 v2 zp
  go_wp2_with fail
  refine Hs.out.mono ?_
  rintro e w3 ⟨rfl, hb3⟩
  have hw3 := below_via hw2 hb3 hw2.size
  have hfin3 := Lib.hid (finds_any _ (HW.out.below hw3))
  clear hfin
  go_wp2_with fail
  refine hfin3.out.mono ?_
  rintro e w4 ⟨rfl, hb4⟩
  go_wp2_with fail
  go_ret
  exact ⟨rfl, below_via hw3 hb4 hw3.size⟩
 ·--[B
  injection h with e1 e2
  injection e1 with q1 q2 q3 q4 q5
  subst q1 q2 q3 q4 q5 e2
  clear Hca Hen Hdc v1 v2
  go_wp2_with fail
  refine hfin.out.mono ?_
  rintro e w3 ⟨rfl, hb3⟩
  have hw3 := below_via hw2 hb3 hw2.size
  have zp3 := zp.below hb3 zp.lt
  have Hs := Lib.hid (same_any _ (fun _ => False) _ _ _ (.mk 0 0 ⟨#[]⟩ [] []) w3 (Nat.le_refl _) (RVal.fair.below Hr2.out hb3) RVal.zero)
  obtain ⟨c0, c1, c2, c3, c4⟩ := zp3.five
  have lp := zp3.lt
  clear hfin zp
  go_wp2_with fail
  refine Hs.out.mono ?_
  rintro e w4 ⟨rfl, hb4⟩
  go_wp2_with fail
  go_ret
  exact ⟨rfl, below_via hw3 hb4 hw3.size⟩
 ·--[C
  have hfl : 0 < f.length := List.length_pos_iff.2 hf
  generalize f.length = nf at hfl ⊢
  have hfl' : (0 : Int) < (nf : Int) := by omega
  have Hen2 := Lib.hid (Hen.out _ ht)
  have Hdc2 := Lib.hid (Hdc.out _ ht)
  rw [hd] at Hdc2
  generalize (encV (.mk pk pn ps pi pl)).1 = eb at Hen2 Hdc2
  clear Hca Hen Hdc hf hd ht
  go_wp2_with fail
  refine hfin.out.mono ?_
  rintro e w3 ⟨rfl, hb3⟩
  have hw3 := below_via hw2 hb3 hw2.size
  have zp3 := zp.below hb3 zp.lt
  have y1 := v1.below hb3 v1.lt
  have y2 := v2.below hb3 v2.lt
  have z1 := y1.cell 0
  have l1 := y1.lt
  have hr3 := RVal.fair.below Hr2.out hb3
  obtain ⟨c0, c1, c2, c3, c4⟩ := zp3.five
  have lp := zp3.lt
  have Hcall := Lib.hid (Hen2.out _ _ w3 hw3 hr3)
  clear hfin zp v1 v2 hb3 hr3 Hen2 Hr2
  go_wp2_with fail
  refine Hcall.out.mono ?_
  rintro e w4 ⟨rfl, hb4⟩
  have hw4 := below_via hw3 hb4 hw3.size
  have v2 := y2.below hb4 y2.lt
  have z2 := v2.cell 0
  have l2 := v2.lt
  have Hcall2 := Lib.hid (Hdc2.out w4 hw4)
  clear c0 c1 c2 c3 c4 lp z1 l1 y1 y2 zp3 Hcall Hdc2 hw3
  go_wp2_with fail
  refine Hcall2.out.mono ?_
  rintro e w5 ⟨cs5, rfl, hr5, hb5⟩
  obtain ⟨dk, dn, ds, di, dl⟩ := dv
  dsimp only at hr5 ⊢
  obtain ⟨J1, j1, J2, j2, rfl, -, -⟩ := hr5.parts
  have hw5 := (below_via hw4 hb5 hw4.size).alloc (below_via hw4 hb5 hw4.size).size (.cells #[.int .i64 dk, .int .i64 dn, .string ds, .slice J1 di.length j1, .slice J2 dl.length j2] 28)
  clear z2 l2 v2 hr5 hb5 Hcall2 hw4
  go_upto_region 9 with fail
  generalize w5.alloc _ = W5 at hw5 ⊢
  rcases ho with rfl | rfl | rfl <;>
  ·go_wp2_with fail
   go_ret
   exact ⟨rfl, hw5⟩
end Go.Proofs.YtfidfakcbjoilaaDoor
