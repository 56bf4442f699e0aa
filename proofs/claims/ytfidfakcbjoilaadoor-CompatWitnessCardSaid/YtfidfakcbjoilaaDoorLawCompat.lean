/- The walks of patternbookkeep.finds and of the statements CompatSelf and CompatReads. -/
import Derived.Test.YtfidfakcbjoilaaDoorProject
import Derived.Test.YtfidfakcbjoilaaDoorValueSame
set_option linter.all false
set_option maxRecDepth 100000
set_option maxHeartbeats 8000000
namespace Go.Proofs.YtfidfakcbjoilaaDoor
open Go.RowKit
def fW : FieldD := ⟨3, ⟨#[120]⟩, ⟨#[]⟩, 2, 3⟩
def fR : FieldD := ⟨3, ⟨#[120]⟩, ⟨#[]⟩, 1, 1⟩
def tW : TypeD := ⟨⟨#[97]⟩, false, [fW], [], []⟩
def tR : TypeD := ⟨⟨#[97]⟩, false, [fR], [], []⟩
theorem flawsWR : flawsF [tW] [tR] ⟨#[97]⟩ = ([⟨⟨#[97]⟩, 3, 2⟩, ⟨⟨#[97]⟩, 3, 3⟩], 0) := by kernel_rfl
theorem okW : BookOk [tW] := by
 intro t ht
 have : t = tW := by simpa using ht
 subst this
 refine ⟨(show tW.name.size ≤ 140737488351232 by decide), fun f hf => ?_, fun x hx => by cases hx⟩
 have : f = fW := by simpa [tW] using hf
 subst this
 exact ⟨(show fW.name.size ≤ 140737488351232 by decide), (show fW.type.size ≤ 140737488351232 by decide)⟩
theorem okR : BookOk [tR] := by
 intro t ht
 have : t = tR := by simpa using ht
 subst this
 refine ⟨(show tR.name.size ≤ 140737488351232 by decide), fun f hf => ?_, fun x hx => by cases hx⟩
 have : f = fR := by simpa [tR] using hf
 subst this
 exact ⟨(show fR.name.size ≤ 140737488351232 by decide), (show fR.type.size ≤ 140737488351232 by decide)⟩
theorem book_one {W : World} {g1 g2 : Nat} {n : ByteArray} {f : FieldD} (h1 : Box W g1 56 (fieldCells f)) (h2 : Box W g2 52 [.string n, .bool false, .slice (some ⟨g1, 0, none⟩) 1 1, .slice none 0 0, .slice none 0 0]) :
  RSl 5 96 RType (fun _ => True) W [.slice (some ⟨g2, 0, none⟩) 1 1] [⟨n, false, [f], [], []⟩] := by
 have hf : RSl 5 56 RField (fun _ => True) W [.slice (some ⟨g1, 0, none⟩) 1 1] [f] := RSl.of_box_flat (xs := [f]) (by simpa using h1) trivial (by simp) (by simp) (fun x _ => rfl)
 exact RSl.of_box (css := [[.string n, .bool false, .slice (some ⟨g1, 0, none⟩) 1 1, .slice none 0 0, .slice none 0 0]]) (xs := ([⟨n, false, [f], [], []⟩] : BookD)) (by simpa using h2) rfl trivial (by simp) (by simp) (by
  intro k x cs hx hcs
  cases k with
  | zero =>
   have e1 : (⟨n, false, [f], [], []⟩ : TypeD) = x := by simpa using hx
   have e2 : [Value.string n, .bool false, .slice (some ⟨g1, 0, none⟩) 1 1, .slice none 0 0, .slice none 0 0] = cs := by simpa using hcs
   subst e1 e2
   exact ⟨rfl, _, _, _, rfl, hf, RSl.nil_, RSl.nil_⟩
  | succ k => simp at hx)
theorem finds_any (w : World) (hW : Words w) : Calls Tryd.prog 8 #[] w (Ret w (.bool true)) := by
 obtain ⟨x1, x2, x3, x4⟩ := boxes3 w [.int .i64 3, .string ⟨#[120]⟩, .string ⟨#[]⟩, .int .i64 2, .int .i64 3] [.string ⟨#[97]⟩, .bool false, .slice (some ⟨w.heap.size, 0, none⟩) 1 1, .slice none 0 0, .slice none 0 0] [.slice (some ⟨w.heap.size + 1, 0, none⟩) 1 1] 56 52 24
 have HW := Lib.hid hW
 clear hW
 go_enter Tryd.func8, Tryd.ntmps8
 go_upto_region 2 with fail
 generalize hWa : ((w.alloc (.cells [.int .i64 3, .string ⟨#[120]⟩, .string ⟨#[]⟩, .int .i64 2, .int .i64 3].toArray 56)).alloc (.cells [.string ⟨#[97]⟩, .bool false, .slice (some ⟨w.heap.size, 0, none⟩) 1 1, .slice none 0 0, .slice none 0 0].toArray 52)).alloc (.cells [.slice (some ⟨w.heap.size + 1, 0, none⟩) 1 1].toArray 24) = Wa at *
 clear hWa
 obtain ⟨y1, y2, y3, y4⟩ := boxes3 Wa [.int .i64 3, .string ⟨#[120]⟩, .string ⟨#[]⟩, .int .i64 1, .int .i64 1] [.string ⟨#[97]⟩, .bool false, .slice (some ⟨Wa.heap.size, 0, none⟩) 1 1, .slice none 0 0, .slice none 0 0] [.slice (some ⟨Wa.heap.size + 1, 0, none⟩) 1 1] 56 52 24
 have u1 := x1.below y4 x1.lt
 have u2 := x2.below y4 x2.lt
 have u3 := x3.below y4 x3.lt
 have hw := below_via x4 y4 x4.size
 go_upto_region 3 with fail
 generalize hWb : ((Wa.alloc (.cells [.int .i64 3, .string ⟨#[120]⟩, .string ⟨#[]⟩, .int .i64 1, .int .i64 1].toArray 56)).alloc (.cells [.string ⟨#[97]⟩, .bool false, .slice (some ⟨Wa.heap.size, 0, none⟩) 1 1, .slice none 0 0, .slice none 0 0].toArray 52)).alloc (.cells [.slice (some ⟨Wa.heap.size + 1, 0, none⟩) 1 1].toArray 24) = Wb at *
 clear hWb
 have h1 : RSl 5 96 RType (fun _ => True) Wb [.slice (some ⟨w.heap.size + 1, 0, none⟩) 1 1] [tW] := book_one (f := fW) u1 u2
 have h2 : RSl 5 96 RType (fun _ => True) Wb [.slice (some ⟨Wa.heap.size + 1, 0, none⟩) 1 1] [tR] := book_one (f := fR) y1 y2
 have hfl := flaws_any (fun _ => True) _ _ [tW] [tR] ⟨#[97]⟩ Wb h1 h2 (HW.out.below hw) okW okR
 rw [flawsWR] at hfl
 have Hfl := Lib.hid hfl
 have z1 := u3.cell 0
 have z2 := y3.cell 0
 have l1 := u3.lt
 have l2 := y3.lt
 clear h1 h2 hfl x1 x2 x3 x4 y1 y2 y3 y4 u1 u2 u3
 go_wp2_with fail
 refine Hfl.out.mono ?_
 rintro e w1 ⟨v, rfl, hv, hb1⟩
 obtain ⟨A, cap, rfl, -, -⟩ := hv.form
 obtain ⟨g, o, rfl, -, hg⟩ := hv.base (by decide)
 have c0 := hv.flat (enc := flawCells) (k := 0) (by decide)
 have c1 := hv.flat (enc := flawCells) (k := 1) (by decide)
 have q0 : w1.cell? ⟨g, o + 2, none⟩ = some (.int .i64 2) := by have := c0.at_ 2 rfl; simpa using this
 have q1 : w1.cell? ⟨g, o + 3 + 2, none⟩ = some (.int .i64 3) := by have := c1.at_ 2 rfl; simpa using this
 have hb := below_via hw hb1 hw.size
 clear c0 c1 hv z1 z2 l1 l2 Hfl hb1 hw
 go_wp2_with fail
 go_ret
 exact ⟨rfl, hb⟩
theorem compatSelf_any (S S' : Nat → Prop) (vb : Value) (bw : BookD) (name : ByteArray) (cs : List Value) (v : ValueD) (w : World) (hb0 : RSl 5 96 RType S w [vb] bw) (hr : RVal S' w cs v) (hW : Words w) (hB : BookOk bw) (hok : okV v)
  (hd : depthV v ≤ 4611686018427387904) (hc : countV v ≤ 4611686018427387904) :
  Calls Tryd.prog 3 #[.agg #[vb], .string name, .agg cs.toArray] w (Ret w (.bool true)) := by
 obtain ⟨AW, cw, rfl, -, -⟩ := hb0.form
 have hfl := fun W (h : Below w.heap.size w W) => flaws_any S _ _ bw bw name W ((RSl.fair RType.fair).below hb0 h) ((RSl.fair RType.fair).below hb0 h) (hW.below h) hB hB
 have hpj := fun W (h : Below w.heap.size w W) => project_any S S' _ _ bw bw name cs v W ((RSl.fair RType.fair).below hb0 h) ((RSl.fair RType.fair).below hb0 h) (RVal.fair.below hr h) (hW.below h) hB hB hok hd hc
 have hp0 := fun h => projF_self (b := bw) (name := name) (v := v) h
 obtain ⟨fl, hfe⟩ : ∃ x, x = flawsF bw bw name := ⟨_, rfl⟩
 obtain ⟨pj, hpe⟩ : ∃ x, x = projF bw bw name v := ⟨_, rfl⟩
 have hf1 : fl.1 = [] := by rw [hfe]; exact flaws_self
 rw [← hfe] at hfl
 rw [← hpe] at hpj hp0
 obtain ⟨f, c⟩ := fl
 obtain rfl : f = [] := hf1
 obtain ⟨pd, pc⟩ := pj
 have Hfl := Lib.hid hfl
 have Hpj := Lib.hid hpj
 have Hp0 := Lib.hid hp0
 have HW := Lib.hid hW
 have HV := Lib.hid hr
 obtain ⟨kind, n, s, ids, l⟩ := v
 obtain ⟨I1, d1, I2, d2, rfl, -, -⟩ := hr.parts
 obtain ⟨x1, x3, x5⟩ := boxes2 w [.slice AW bw.length cw] [.int .i64 kind, .int .i64 n, .string s, .slice I1 ids.length d1, .slice I2 l.length d2] 24 28
 have z1 := x1.cell 0
 have l1 := x1.lt
 clear hb0 hr hW hB hok hd hc hfl hpj hp0 hfe hpe
 go_enter Tryd.func3, Tryd.ntmps3
 go_wp2_with fail
 refine (Hfl.out _ x5).mono ?_
 rintro e w1 ⟨vf, rfl, hvf, hb1⟩
 obtain ⟨AF, cf, rfl, -, -⟩ := hvf.form
 have y1 := x1.below hb1 x1.lt
 have y3 := x3.below hb1 x3.lt
 have hw1 := below_via x5 hb1 x5.size
 clear z1 l1 x1 x3 x5 hb1 Hfl hvf
 have z1 := y1.cell 0
 have l1 := y1.lt
 obtain ⟨u0, u1, u2, u3, u4⟩ := y3.five
 have l3 := y3.lt
 go_wp2_with fail
 refine (Hpj.out _ hw1).mono ?_
 rintro e w2 ⟨cs2, rfl, hr2, hb2⟩
 obtain ⟨pk, pn, ps, pi, pl⟩ := pd
 dsimp only at hr2 Hp0 ⊢
 obtain ⟨E1, f1, E2, f2, rfl, -, -⟩ := hr2.parts
 have hw2 := (below_via hw1 hb2 hw1.size).alloc (below_via hw1 hb2 hw1.size).size (.cells [.int .i64 pk, .int .i64 pn, .string ps, .slice E1 pi.length f1, .slice E2 pl.length f2].toArray 28)
 have v3 := (y3.below hb2 y3.lt).alloc (.cells [.int .i64 pk, .int .i64 pn, .string ps, .slice E1 pi.length f1, .slice E2 pl.length f2].toArray 28)
 have zp : Box (w2.alloc (.cells [.int .i64 pk, .int .i64 pn, .string ps, .slice E1 pi.length f1, .slice E2 pl.length f2].toArray 28)) w2.heap.size 28 [.int .i64 pk, .int .i64 pn, .string ps, .slice E1 pi.length f1, .slice E2 pl.length f2] := Box.new w2 _ _
 have Hr2 := Lib.hid (RVal.fair.keep hr2 (Keep.alloc _ w2 (.cells [.int .i64 pk, .int .i64 pn, .string ps, .slice E1 pi.length f1, .slice E2 pl.length f2].toArray 28)))
 have HV2 := Lib.hid (RVal.fair.below HV.out hw2)
 clear z1 l1 u0 u1 u2 u3 u4 l3 y1 y3 hr2 hb2 hw1 Hpj HV
 go_upto_region 3 with fail
 generalize w2.heap.size = P at zp ⊢
 generalize w2.alloc _ = W2 at zp v3 hw2 Hr2 HV2 ⊢
 have hfin := Lib.hid (finds_any _ (HW.out.below hw2))
 by_cases hc : c = 0
 ·subst hc
  by_cases hpc : pc = 0
  ·subst hpc
   have hsame := Hp0.out rfl
   injection hsame with e1 e2
   injection e1 with q1 q2 q3 q4 q5
   subst q1 q2 q3 q4 q5
   clear e2 Hp0
   go_wp2_with fail
   refine hfin.out.mono ?_
   rintro e w3 ⟨rfl, hb3⟩
   have zp3 := zp.below hb3 zp.lt
   have v33 := v3.below hb3 v3.lt
   have hw3 := below_via hw2 hb3 hw2.size
   have Hs := Lib.hid (same_any S' (Un S' w1) _ _ _ (.mk pk pn ps pi pl) w3 (Nat.le_refl _) (RVal.fair.below HV2.out hb3) (RVal.fair.below Hr2.out hb3))
   obtain ⟨u0, u1, u2, u3, u4⟩ := v33.five
   have l3 := v33.lt
   obtain ⟨c0, c1, c2, c3, c4⟩ := zp3.five
   have lp := zp3.lt
   clear zp v3 hw2 hb3 Hr2 HV2 hfin
   go_wp2_with fail
   refine Hs.out.mono ?_
   rintro e w4 ⟨rfl, hb4⟩
   go_wp2_with fail
   go_ret
   exact ⟨rfl, below_via hw3 hb4 hw3.size⟩
  ·have hcb : (pc != 0) = true := by simpa using hpc
   clear hpc
   go_wp2_with fail
   refine hfin.out.mono ?_
   rintro e w3 ⟨rfl, hb3⟩
   go_wp2_with fail
   go_ret
   exact ⟨rfl, below_via hw2 hb3 hw2.size⟩
 ·have hcb : (c != 0) = true := by simpa using hc
  clear hc
  go_wp2_with fail
  refine hfin.out.mono ?_
  rintro e w3 ⟨rfl, hb3⟩
  go_wp2_with fail
  go_ret
  exact ⟨rfl, below_via hw2 hb3 hw2.size⟩
theorem compatReads_any (S S' : Nat → Prop) (vw vr : Value) (bw br : BookD) (name : ByteArray) (cs : List Value) (v : ValueD) (w : World) (hb1 : RSl 5 96 RType S w [vw] bw) (hb2 : RSl 5 96 RType S w [vr] br) (hr : RVal S' w cs v) (hW : Words w) (o1 : BookOk bw) (o2 : BookOk br) (hok : okV v)
  (hd : depthV v ≤ 4611686018427387904) (hc : countV v ≤ 4611686018427387904) :
  Calls Tryd.prog 4 #[.agg #[vw], .agg #[vr], .string name, .agg cs.toArray] w (Ret w (.bool true)) := by
 obtain ⟨AW, cw, rfl, -, -⟩ := hb1.form
 obtain ⟨AR, cr, rfl, -, -⟩ := hb2.form
 have hfl := fun W (h : Below w.heap.size w W) => flaws_any S _ _ bw br name W ((RSl.fair RType.fair).below hb1 h) ((RSl.fair RType.fair).below hb2 h) (hW.below h) o1 o2
 have hen := fun W (h : Below w.heap.size w W) => vEncode_any S S' _ bw name cs v W ((RSl.fair RType.fair).below hb1 h) (RVal.fair.below hr h) (hW.below h) o1 hok hd hc
 have hpj := fun W (h : Below w.heap.size w W) => project_any S S' _ _ bw br name cs v W ((RSl.fair RType.fair).below hb1 h) ((RSl.fair RType.fair).below hb2 h) (RVal.fair.below hr h) (hW.below h) o1 o2 hok hd hc
 have hdc : (flawsF bw br name).2 = 0 → (EncodeF bw name v).2 = 0 → (flawsF bw br name).1 = [] → ((projF bw br name v).2 = 0 ∨ (projF bw br name v).2 = 7) ∧ ∀ W (_ : Below w.heap.size w W), Calls Tryd.prog 11 #[.agg #[.slice AR br.length cr], .string name, .string ⟨(EncodeF bw name v).1.toArray⟩] W (ValCode W (projF bw br name v)) := fun h1 h2 h3 => by
  have hbo : bothF bw br name = 0 := by
   unfold flawsF at h1
   split at h1
   ·rename_i h; exact absurd h1 h
   ·rename_i h; simpa using h
  have hty : TypedF bw name v = 0 := by rw [← EncodeF_ok.1]; exact h2
  obtain ⟨r1, r2⟩ := reads_all hbo h3 hty
  refine ⟨r2, fun W h => ?_⟩
  obtain ⟨_, q2, _⟩ := value_back hty
  have he := (EncodeF_ok (b := bw) (name := name) (v := v)).2.2 h2
  rw [he]
  have := vDecode_any S _ br name ⟨(encV v).1.toArray⟩ W ((RSl.fair RType.fair).below hb2 h) (hW.below h) o2 (by unfold maxLen; show (encV v).1.toArray.size ≤ _; simp; omega)
  rw [bytes_of] at this
  rw [r1]; exact this
 obtain ⟨fl, hfe⟩ : ∃ x, x = flawsF bw br name := ⟨_, rfl⟩
 obtain ⟨en, hee⟩ : ∃ x, x = EncodeF bw name v := ⟨_, rfl⟩
 obtain ⟨pj, hpe⟩ : ∃ x, x = projF bw br name v := ⟨_, rfl⟩
 rw [← hfe] at hfl hdc
 rw [← hee] at hen hdc
 rw [← hpe] at hpj hdc
 have Hfl := Lib.hid hfl
 have Hen := Lib.hid hen
 have Hpj := Lib.hid hpj
 have Hdc := Lib.hid hdc
 have HW := Lib.hid hW
 obtain ⟨f, c⟩ := fl
 obtain ⟨eb, ec⟩ := en
 obtain ⟨kind, n, s, ids, l⟩ := v
 obtain ⟨I1, d1, I2, d2, rfl, -, -⟩ := hr.parts
 obtain ⟨x1, x2, x3, x5⟩ := boxes3 w [.slice AW bw.length cw] [.slice AR br.length cr] [.int .i64 kind, .int .i64 n, .string s, .slice I1 ids.length d1, .slice I2 l.length d2] 24 24 28
 have z1 := x1.cell 0
 have l1 := x1.lt
 have z2 := x2.cell 0
 have l2 := x2.lt
 clear hb1 hb2 hr hW o1 o2 hok hd hc hfl hen hpj hdc hfe hee hpe
 go_enter Tryd.func4, Tryd.ntmps4
 go_wp2_with fail
 refine (Hfl.out _ x5).mono ?_
 rintro e w1 ⟨vf, rfl, hvf, hb1⟩
 obtain ⟨AF, cf, rfl, -, -⟩ := hvf.form
 have y1 := x1.below hb1 x1.lt
 have y2 := x2.below hb1 x2.lt
 have y3 := x3.below hb1 x3.lt
 have hw1 := below_via x5 hb1 x5.size
 clear z1 l1 z2 l2 x1 x2 x3 x5 hb1 Hfl hvf
 have z1 := y1.cell 0
 have l1 := y1.lt
 obtain ⟨u0, u1, u2, u3, u4⟩ := y3.five
 have l3 := y3.lt
 go_wp2_with fail
 refine (Hen.out _ hw1).mono ?_
 rintro e w2 ⟨rfl, hb2⟩
 have v1 := y1.below hb2 y1.lt
 have v2 := y2.below hb2 y2.lt
 have v3 := y3.below hb2 y3.lt
 have hw2 := below_via hw1 hb2 hw1.size
 dsimp only at Hdc ⊢
 clear z1 l1 u0 u1 u2 u3 u4 l3 y1 y2 y3 hb2 hw1 Hen
 have hfin := Lib.hid (finds_any _ (HW.out.below hw2))
 by_cases hall : c = 0 ∧ ec = 0 ∧ f = []
 ·obtain ⟨rfl, rfl, rfl⟩ := hall
  obtain ⟨ho7, hdec⟩ := Hdc.out rfl rfl rfl
  have Hdec := Lib.hid hdec
  have Ho7 := Lib.hid ho7
  clear Hdc ho7 hdec
  go_wp2_with fail
  refine hfin.out.mono ?_
  rintro e w3 ⟨rfl, hb3⟩
  have y1 := v1.below hb3 v1.lt
  have y2 := v2.below hb3 v2.lt
  have y3 := v3.below hb3 v3.lt
  have hw3 := below_via hw2 hb3 hw2.size
  clear v1 v2 v3 hb3 hw2 hfin
  have z1 := y1.cell 0
  have l1 := y1.lt
  have z2 := y2.cell 0
  have l2 := y2.lt
  obtain ⟨u0, u1, u2, u3, u4⟩ := y3.five
  have l3 := y3.lt
  go_wp2_with fail
  refine (Hpj.out _ hw3).mono ?_
  rintro e w4 ⟨cs4, rfl, hr4, hb4⟩
  obtain ⟨⟨pk, pn, ps, pi, pl⟩, pc⟩ := pj
  dsimp only at hr4 Hdec Ho7 ⊢
  obtain ⟨E1, f1, E2, f2, rfl, -, -⟩ := hr4.parts
  have hw4 := (below_via hw3 hb4 hw3.size).alloc (below_via hw3 hb4 hw3.size).size (.cells [.int .i64 pk, .int .i64 pn, .string ps, .slice E1 pi.length f1, .slice E2 pl.length f2].toArray 28)
  have v2 := (y2.below hb4 y2.lt).alloc (.cells [.int .i64 pk, .int .i64 pn, .string ps, .slice E1 pi.length f1, .slice E2 pl.length f2].toArray 28)
  have zp : Box (w4.alloc (.cells [.int .i64 pk, .int .i64 pn, .string ps, .slice E1 pi.length f1, .slice E2 pl.length f2].toArray 28)) w4.heap.size 28 [.int .i64 pk, .int .i64 pn, .string ps, .slice E1 pi.length f1, .slice E2 pl.length f2] := Box.new w4 _ _
  have Hr4 := Lib.hid (RVal.fair.keep hr4 (Keep.alloc _ w4 (.cells [.int .i64 pk, .int .i64 pn, .string ps, .slice E1 pi.length f1, .slice E2 pl.length f2].toArray 28)))
  clear z1 l1 z2 l2 u0 u1 u2 u3 u4 l3 y1 y2 y3 hr4 hb4 hw3 Hpj
  go_upto_region 6 with fail
  generalize w4.heap.size = P at zp ⊢
  generalize w4.alloc _ = W4 at zp v2 hw4 Hr4 ⊢
  have z2 := v2.cell 0
  have l2 := v2.lt
  go_wp2_with fail
  refine (Hdec.out _ hw4).mono ?_
  rintro e w5 ⟨cs5, rfl, hr5, hb5⟩
  dsimp only at hr5 ⊢
  obtain ⟨J1, j1, J2, j2, rfl, -, -⟩ := hr5.parts
  have hw5 := (below_via hw4 hb5 hw4.size).alloc (below_via hw4 hb5 hw4.size).size (.cells #[.int .i64 pk, .int .i64 pn, .string ps, .slice J1 pi.length j1, .slice J2 pl.length j2] 28)
  have zp5 := (zp.below hb5 zp.lt).alloc (.cells #[.int .i64 pk, .int .i64 pn, .string ps, .slice J1 pi.length j1, .slice J2 pl.length j2] 28)
  have zq : Box (w5.alloc (.cells #[.int .i64 pk, .int .i64 pn, .string ps, .slice J1 pi.length j1, .slice J2 pl.length j2] 28)) w5.heap.size 28 [.int .i64 pk, .int .i64 pn, .string ps, .slice J1 pi.length j1, .slice J2 pl.length j2] := Box.new w5 _ _
  have Hr5 := Lib.hid (RVal.fair.keep hr5 (Keep.alloc _ w5 (.cells #[.int .i64 pk, .int .i64 pn, .string ps, .slice J1 pi.length j1, .slice J2 pl.length j2] 28)))
  have Hr4' := Lib.hid (RVal.fair.keep (RVal.fair.below Hr4.out hb5) (Keep.alloc _ w5 (.cells #[.int .i64 pk, .int .i64 pn, .string ps, .slice J1 pi.length j1, .slice J2 pl.length j2] 28)))
  clear z2 l2 v2 zp hr5 hb5 hw4 Hdec Hr4
  go_upto_region 7 with fail
  generalize w5.heap.size = Q at zq ⊢
  generalize w5.alloc _ = W5 at zq zp5 hw5 Hr5 Hr4' ⊢
  have Hs := Lib.hid (same_any _ _ _ _ _ (.mk pk pn ps pi pl) W5 (Nat.le_refl _) Hr4'.out Hr5.out)
  obtain ⟨u0, u1, u2, u3, u4⟩ := zp5.five
  have l3 := zp5.lt
  obtain ⟨c0, c1, c2, c3, c4⟩ := zq.five
  have lp := zq.lt
  have ho := Ho7.out
  clear zp5 zq Hr4' Hr5 Ho7
  rcases ho with rfl | rfl
  ·go_wp2_with fail
   refine Hs.out.mono ?_
   rintro e w6 ⟨rfl, hb6⟩
   go_wp2_with fail
   go_ret
   exact ⟨rfl, below_via hw5 hb6 hw5.size⟩
  ·go_wp2_with fail
   refine Hs.out.mono ?_
   rintro e w6 ⟨rfl, hb6⟩
   go_wp2_with fail
   go_ret
   exact ⟨rfl, below_via hw5 hb6 hw5.size⟩
 ·clear Hpj Hdc
  by_cases hc : c = 0
  ·subst hc
   by_cases hec : ec = 0
   ·subst hec
    have hfl : 0 < f.length := List.length_pos_iff.2 (fun h => hall ⟨rfl, rfl, h⟩)
    clear hall
    go_wp2_with fail
    refine hfin.out.mono ?_
    rintro e w3 ⟨rfl, hb3⟩
    go_wp2_with fail
    go_ret
    exact ⟨rfl, below_via hw2 hb3 hw2.size⟩
   ·have hcb : (ec != 0) = true := by simpa using hec
    clear hec hall
    go_wp2_with fail
    refine hfin.out.mono ?_
    rintro e w3 ⟨rfl, hb3⟩
    go_wp2_with fail
    go_ret
    exact ⟨rfl, below_via hw2 hb3 hw2.size⟩
  ·have hcb : (c != 0) = true := by simpa using hc
   clear hc hall
   go_wp2_with fail
   refine hfin.out.mono ?_
   rintro e w3 ⟨rfl, hb3⟩
   go_wp2_with fail
   go_ret
   exact ⟨rfl, below_via hw2 hb3 hw2.size⟩
end Go.Proofs.YtfidfakcbjoilaaDoor
