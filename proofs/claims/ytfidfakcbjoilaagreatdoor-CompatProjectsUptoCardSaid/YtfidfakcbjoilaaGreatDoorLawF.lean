/- Several texts of walks and laws in one file; what each proves stands at its head. -/
import Derived.Test.YtfidfakcbjoilaaGreatDoorFlawsWalk
import Derived.Test.YtfidfakcbjoilaaGreatDoorRefFlaws
import Derived.Test.YtfidfakcbjoilaaGreatDoorRefSameB
import Derived.Test.YtfidfakcbjoilaaGreatDoorRefCopy
set_option linter.all false
set_option maxRecDepth 100000
set_option maxHeartbeats 8000000
namespace Go.Proofs.YtfidfakcbjoilaaGreatDoor
open Go.RowKit
def fW : FieldD := ⟨3, ⟨#[120]⟩, ⟨#[]⟩, 2, 3⟩
def fR : FieldD := ⟨3, ⟨#[120]⟩, ⟨#[]⟩, 1, 1⟩
def tW : TypeD := ⟨⟨#[97]⟩, false, [fW], [], []⟩
def tR : TypeD := ⟨⟨#[97]⟩, false, [fR], [], []⟩
theorem flawsWR : flawsF [tW] [tR] ⟨#[97]⟩ = ([⟨⟨#[97]⟩, 3, 2⟩, ⟨⟨#[97]⟩, 3, 3⟩], 0) := by kernel_rfl
theorem okW : BookOk [tW] := by
 intro t ht
 have : t = tW := by simpa using ht
 subst this
 refine ⟨(show tW.name.size ≤ 140737488351232 by decide), fun f hf => ?_, fun x hx => by cases hx⟩
 have : f = fW := by simpa [tW] using hf
 subst this
 exact ⟨(show fW.name.size ≤ 140737488351232 by decide), (show fW.type.size ≤ 140737488351232 by decide)⟩
theorem okR : BookOk [tR] := by
 intro t ht
 have : t = tR := by simpa using ht
 subst this
 refine ⟨(show tR.name.size ≤ 140737488351232 by decide), fun f hf => ?_, fun x hx => by cases hx⟩
 have : f = fR := by simpa [tR] using hf
 subst this
 exact ⟨(show fR.name.size ≤ 140737488351232 by decide), (show fR.type.size ≤ 140737488351232 by decide)⟩
theorem book_one {W : World} {g1 g2 : Nat} {n : ByteArray} {f : FieldD} (h1 : Box W g1 55 (fieldCells f)) (h2 : Box W g2 46 [.string n, .bool false, .slice (some ⟨g1, 0, none⟩) 1 1, .slice none 0 0, .slice none 0 0]) :
  RSl 5 96 RType (fun _ => True) W [.slice (some ⟨g2, 0, none⟩) 1 1] [⟨n, false, [f], [], []⟩] := by
 have hf : RSl 5 56 RField (fun _ => True) W [.slice (some ⟨g1, 0, none⟩) 1 1] [f] := RSl.of_box_flat (xs := [f]) (by simpa using h1) trivial (by simp) (by simp) (fun x _ => rfl)
 exact RSl.of_box (css := [[.string n, .bool false, .slice (some ⟨g1, 0, none⟩) 1 1, .slice none 0 0, .slice none 0 0]]) (xs := ([⟨n, false, [f], [], []⟩] : BookD)) (by simpa using h2) rfl trivial (by simp) (by simp) (by
  intro k x cs hx hcs
  cases k with
  | zero =>
   have e1 : (⟨n, false, [f], [], []⟩ : TypeD) = x := by simpa using hx
   have e2 : [Value.string n, .bool false, .slice (some ⟨g1, 0, none⟩) 1 1, .slice none 0 0, .slice none 0 0] = cs := by simpa using hcs
   subst e1 e2
   exact ⟨rfl, _, _, _, rfl, hf, RSl.nil_, RSl.nil_⟩
  | succ k => simp at hx)
theorem finds_any (w : World) (hW : Words w) : Calls Tryz.prog 10 #[] w (Ret w (.bool true)) := by
 obtain ⟨x1, x2, x3, x4⟩ := boxes3 w [.int .i64 3, .string ⟨#[120]⟩, .string ⟨#[]⟩, .int .i64 2, .int .i64 3] [.string ⟨#[97]⟩, .bool false, .slice (some ⟨w.heap.size, 0, none⟩) 1 1, .slice none 0 0, .slice none 0 0] [.slice (some ⟨w.heap.size + 1, 0, none⟩) 1 1] 55 46 24
 have HW := Lib.hid hW
 clear hW
 go_enter Tryz.func10, Tryz.ntmps10
 go_upto_region 2 with fail
 generalize hWa : ((w.alloc (.cells [.int .i64 3, .string ⟨#[120]⟩, .string ⟨#[]⟩, .int .i64 2, .int .i64 3].toArray 55)).alloc (.cells [.string ⟨#[97]⟩, .bool false, .slice (some ⟨w.heap.size, 0, none⟩) 1 1, .slice none 0 0, .slice none 0 0].toArray 46)).alloc (.cells [.slice (some ⟨w.heap.size + 1, 0, none⟩) 1 1].toArray 24) = Wa at *
 clear hWa
 obtain ⟨y1, y2, y3, y4⟩ := boxes3 Wa [.int .i64 3, .string ⟨#[120]⟩, .string ⟨#[]⟩, .int .i64 1, .int .i64 1] [.string ⟨#[97]⟩, .bool false, .slice (some ⟨Wa.heap.size, 0, none⟩) 1 1, .slice none 0 0, .slice none 0 0] [.slice (some ⟨Wa.heap.size + 1, 0, none⟩) 1 1] 55 46 24
 have u1 := x1.below y4 x1.lt
 have u2 := x2.below y4 x2.lt
 have u3 := x3.below y4 x3.lt
 have hw := below_via x4 y4 x4.size
 go_upto_region 3 with fail
 generalize hWb : ((Wa.alloc (.cells [.int .i64 3, .string ⟨#[120]⟩, .string ⟨#[]⟩, .int .i64 1, .int .i64 1].toArray 55)).alloc (.cells [.string ⟨#[97]⟩, .bool false, .slice (some ⟨Wa.heap.size, 0, none⟩) 1 1, .slice none 0 0, .slice none 0 0].toArray 46)).alloc (.cells [.slice (some ⟨Wa.heap.size + 1, 0, none⟩) 1 1].toArray 24) = Wb at *
 clear hWb
 have h1 : RSl 5 96 RType (fun _ => True) Wb [.slice (some ⟨w.heap.size + 1, 0, none⟩) 1 1] [tW] := book_one (f := fW) u1 u2
 have h2 : RSl 5 96 RType (fun _ => True) Wb [.slice (some ⟨Wa.heap.size + 1, 0, none⟩) 1 1] [tR] := book_one (f := fR) y1 y2
 have hfl := flaws_any (fun _ => True) _ _ [tW] [tR] ⟨#[97]⟩ Wb h1 h2 (HW.out.below hw) okW okR
 rw [flawsWR] at hfl
 have Hfl := Lib.hid hfl
 have z1 := u3.cell 0
 have z2 := y3.cell 0
 have l1 := u3.lt
 have l2 := y3.lt
 clear h1 h2 hfl x1 x2 x3 x4 y1 y2 y3 y4 u1 u2 u3
 go_wp2_with fail
 refine Hfl.out.mono ?_
 rintro e w1 ⟨v, rfl, hv, hb1⟩
 obtain ⟨A, cap, rfl, -, -⟩ := hv.form
 obtain ⟨g, o, rfl, -, hg⟩ := hv.base (by decide)
 have c0 := hv.flat (enc := flawCells) (k := 0) (by decide)
 have c1 := hv.flat (enc := flawCells) (k := 1) (by decide)
 have q0 : w1.cell? ⟨g, o + 2, none⟩ = some (.int .i64 2) := by have := c0.at_ 2 rfl; simpa using this
 have q1 : w1.cell? ⟨g, o + 3 + 2, none⟩ = some (.int .i64 3) := by have := c1.at_ 2 rfl; simpa using this
 have hb := below_via hw hb1 hw.size
 clear c0 c1 hv z1 z2 l1 l2 Hfl hb1 hw
 go_wp2_with fail
 go_ret
 exact ⟨rfl, hb⟩
end Go.Proofs.YtfidfakcbjoilaaGreatDoor
namespace Go.Proofs.YtfidfakcbjoilaaGreatDoor
open Go Go.RowKit
section
variable {P : Program} {md : Region.Mode} {ops : Array Oper} {Q : Exit → Act → World → Prop} {lt : Nat} {S : World → Prop}
theorem late_three {i j k : Nat} {oi oj ok : Oper} {fuel : Nat} {listed : Array Bool} {a : Act} {w : World} (hi : ops[i]? = some oi) (hj : ops[j]? = some oj) (hk : ops[k]? = some ok) (hr : Region.ready md ops listed = [i, j, k])
  (h1 : ∀ K : Act → World → Prop, Shut (∀ a' w', (i < lt → S w') → anyL P md ops Q lt S fuel (listed.setIfInBounds i true) a' w' → K a' w') → if Region.wanted oi (yielded ops a.tmps) = true then Oper.wp P oi a w K Q else K (a.put oi.dst undef) w)
  (h2 : ∀ K : Act → World → Prop, Shut (∀ a' w', (j < lt → S w') → anyL P md ops Q lt S fuel (listed.setIfInBounds j true) a' w' → K a' w') → if Region.wanted oj (yielded ops a.tmps) = true then Oper.wp P oj a w K Q else K (a.put oj.dst undef) w)
  (h3 : ∀ K : Act → World → Prop, Shut (∀ a' w', (k < lt → S w') → anyL P md ops Q lt S fuel (listed.setIfInBounds k true) a' w' → K a' w') → if Region.wanted ok (yielded ops a.tmps) = true then Oper.wp P ok a w K Q else K (a.put ok.dst undef) w) :
  anyL P md ops Q lt S (fuel + 1) listed a w := by
 refine ⟨fun h0 => (by rw [hr] at h0; cases h0), ?_⟩
 rw [hr]
 intro q hq
 rcases List.mem_cons.1 hq with rfl | hq
 ·exact wpOp_step hi (fun K' hK => h1 K' (fun a' w' hS hW => hK a' w' ⟨hS, hW⟩))
 ·rcases List.mem_cons.1 hq with rfl | hq
  ·exact wpOp_step hj (fun K' hK => h2 K' (fun a' w' hS hW => hK a' w' ⟨hS, hW⟩))
  ·have : q = k := by simpa using hq
   subst this
   exact wpOp_step hk (fun K' hK => h3 K' (fun a' w' hS hW => hK a' w' ⟨hS, hW⟩))
end
theorem cut_new {α : Type} {R : Rel α} (hR : Fair R) {W W' : World} {cs : List Value} {x : α} (h : R (New W) W' cs x) : R (fun y => W.heap.size ≤ y ∧ y < W'.heap.size) W' cs x := hR.mono h fun _ h1 h2 => ⟨h1, h2⟩
theorem isMessage_any (S : Nat → Prop) (vb : Value) (b : BookD) (name : ByteArray) (w : World) (hb0 : RSl 5 96 RType S w [vb] b) : Calls Tryz.prog 27 #[.agg #[vb], .string name] w (Ret w (.bool (!noneB b name))) := by
 obtain ⟨A, cap, rfl, -, -⟩ := hb0.form
 obtain ⟨x1, x2⟩ := boxes1 w [.slice A b.length cap] 24
 have hc := typeOf_any S _ b name _ ((RSl.fair RType.fair).below hb0 x2)
 have Hc := Lib.hid hc
 have z1 := x1.cell 0
 have l1 := x1.lt
 have hq : (!noneB b name) = ((findT b name).isSome && !((findT b name).getD .zero).enum) := by
  unfold noneB
  cases findT b name <;> simp
 have Hq := Lib.hid hq
 clear hb0 hc hq x1
 go_enter Tryz.func27, Tryz.ntmps27
 go_wp2_with fail
 refine Hc.out.mono ?_
 rintro e w1 ⟨cs, rfl, hr, hb⟩
 obtain ⟨t, ht⟩ : ∃ t, t = (findT b name).getD .zero := ⟨_, rfl⟩
 obtain ⟨s, hs⟩ : ∃ t, t = (findT b name).isSome := ⟨_, rfl⟩
 rw [← ht] at hr
 rw [← hs]
 rw [← ht, ← hs] at Hq
 obtain ⟨P1, p1, P2, p2, P3, p3, rfl, -, -, -⟩ := hr.parts
 have hw := (below_via x2 hb x2.size).alloc (below_via x2 hb x2.size).size (.cells [.string t.name, .bool t.enum, .slice P1 t.fields.length p1, .slice P2 t.gone.length p2, .slice P3 t.items.length p3].toArray 46)
 have zt := Box.new w1 46 [.string t.name, .bool t.enum, .slice P1 t.fields.length p1, .slice P2 t.gone.length p2, .slice P3 t.items.length p3]
 clear hr hb x2 z1 l1 Hc ht hs
 go_upto_region 2 with fail
 generalize w1.heap.size = T at zt ⊢
 generalize (World.alloc w1 _) = w2 at zt hw ⊢
 have z1 : w2.cell? ⟨T, 1, none⟩ = some (.bool t.enum) := zt.cell 1
 have l1 := zt.lt
 obtain ⟨en, hen⟩ : ∃ e, e = t.enum := ⟨_, rfl⟩
 rw [← hen] at z1 Hq
 clear zt hen
 cases s <;> cases en <;> (go_wp2_with fail; go_ret; exact ⟨by rw [Hq.out]; rfl, hw⟩)
def FlawsOfPost (w : World) (r : List FlawD × Int) (e : Ending) (w' : World) : Prop := ∃ v, e = .returned (.tuple #[v, .int .i64 r.2]) ∧ RSl 3 32 RFlaw (New w) w' [v] r.1 ∧ Below w.heap.size w w'
theorem flawsOf_any (S : Nat → Prop) (vw vr : Value) (bw br : BookD) (name : ByteArray) (w : World) (hb1 : RSl 5 96 RType S w [vw] bw) (hb2 : RSl 5 96 RType S w [vr] br) (hM : MaxL w) (o1 : BookOk bw) (o2 : BookOk br) (s1 : BookSmall bw) (s2 : BookSmall br) :
  Calls Tryz.prog 7 #[.agg #[vw], .agg #[vr], .string name] w (FlawsOfPost w (flawsF bw br name)) := by
 obtain ⟨AW, cw, rfl, -, -⟩ := hb1.form
 obtain ⟨AR, cr, rfl, -, -⟩ := hb2.form
 obtain ⟨x1, x2, x3⟩ := boxes2 w [.slice AW bw.length cw] [.slice AR br.length cr] 24 24
 have hg1 := Lib.hid (fun W (h : Below w.heap.size w W) => goodR_any S _ bw W ((RSl.fair RType.fair).below hb1 h) (hM.below h) o1 s1)
 have hg2 := Lib.hid (fun W (h : Below w.heap.size w W) => goodR_any S _ br W ((RSl.fair RType.fair).below hb2 h) (hM.below h) o2 s2)
 have hm1 := Lib.hid (fun W (h : Below w.heap.size w W) => isMessage_any S _ bw name W ((RSl.fair RType.fair).below hb1 h))
 have hm2 := Lib.hid (fun W (h : Below w.heap.size w W) => isMessage_any S _ br name W ((RSl.fair RType.fair).below hb2 h))
 have hfl := Lib.hid (fun (hn : bothF bw br name = 0) W (h : Below w.heap.size w W) => refFlaws_any S _ _ bw br name W ((RSl.fair RType.fair).below hb1 h) ((RSl.fair RType.fair).below hb2 h) hn o1 o2)
 obtain ⟨p, hp⟩ : ∃ p, p = flawsF bw br name := ⟨_, rfl⟩
 rw [← hp]
 rw [← hp] at hfl
 have hp0 : bothF bw br name ≠ 0 → p = ([], bothF bw br name) := fun h => by rw [hp]; unfold flawsF; rw [if_pos h]
 have hp1 : bothF bw br name = 0 → p.2 = 0 := fun h => by rw [hp]; unfold flawsF; rw [if_neg (by simpa using h)]
 have hbo : bothF bw br name = if goodF bw ≠ 0 ∨ goodF br ≠ 0 then 1 else if noneB bw name = true ∨ noneB br name = true then 3 else 0 := rfl
 obtain ⟨bo, hboe⟩ : ∃ b, b = bothF bw br name := ⟨_, rfl⟩
 rw [← hboe] at hp0 hp1 hbo hfl
 obtain ⟨g1, hg1e⟩ : ∃ g, g = goodF bw := ⟨_, rfl⟩
 obtain ⟨g2, hg2e⟩ : ∃ g, g = goodF br := ⟨_, rfl⟩
 obtain ⟨m1, hm1e⟩ : ∃ g, g = noneB bw name := ⟨_, rfl⟩
 obtain ⟨m2, hm2e⟩ : ∃ g, g = noneB br name := ⟨_, rfl⟩
 rw [← hg1e, ← hg2e, ← hm1e, ← hm2e] at hbo
 rw [← hg1e] at hg1
 rw [← hg2e] at hg2
 rw [← hm1e] at hm1
 rw [← hm2e] at hm2
 have Hbo := Lib.hid hbo
 have Hp0 := Lib.hid hp0
 have Hp1 := Lib.hid hp1
 have z1 := x1.cell 0
 have l1 := x1.lt
 clear hb1 hb2 hM o1 o2 s1 s2 hp hp0 hp1 hbo hboe hg1e hg2e hm1e hm2e
 go_enter Tryz.func7, Tryz.ntmps7
 go_wp2_with fail
 refine (hg1.out _ x3).mono ?_
 rintro e w1 ⟨rfl, hb1⟩
 have y1 := x1.below hb1 x1.lt
 have y2 := x2.below hb1 x2.lt
 have hw1 := below_via x3 hb1 x3.size
 clear z1 l1 x1 x2 x3 hb1 hg1
 by_cases e1 : g1 = 0
 ·subst e1
  have z2 := y2.cell 0
  have l2 := y2.lt
  go_wp2_with fail
  refine (hg2.out _ hw1).mono ?_
  rintro e w2 ⟨rfl, hb2⟩
  have x1 := y1.below hb2 y1.lt
  have x2 := y2.below hb2 y2.lt
  have hw2 := below_via hw1 hb2 hw1.size
  clear z2 l2 y1 y2 hb2 hw1 hg2
  by_cases e2 : g2 = 0
  ·subst e2
   have z1 := x1.cell 0
   have l1 := x1.lt
   go_wp2_with fail
   refine (hm1.out _ hw2).mono ?_
   rintro e w3 ⟨rfl, hb3⟩
   have y1 := x1.below hb3 x1.lt
   have y2 := x2.below hb3 x2.lt
   have hw3 := below_via hw2 hb3 hw2.size
   clear z1 l1 x1 x2 hb3 hw2 hm1
   cases m1 with
   | true =>
    have hbq : bo = 3 := by rw [Hbo.out]; simp
    subst hbq
    have hpq := Lib.hid (Hp0.out (by decide))
    go_wp2_with fail
    refine bodyPost_ret (results_tmp2 rfl _ _ _) rfl ?_
    rw [hpq.out]
    exact ⟨_, rfl, RSl.nil_, hw3⟩
   | false =>
    have z2 := y2.cell 0
    have l2 := y2.lt
    go_wp2_with fail
    refine (hm2.out _ hw3).mono ?_
    rintro e w4 ⟨rfl, hb4⟩
    have x1 := y1.below hb4 y1.lt
    have x2 := y2.below hb4 y2.lt
    have hw4 := below_via hw3 hb4 hw3.size
    clear z2 l2 y1 y2 hb4 hw3 hm2
    cases m2 with
    | true =>
     have hbq : bo = 3 := by rw [Hbo.out]; simp
     subst hbq
     have hpq := Lib.hid (Hp0.out (by decide))
     go_wp2_with fail
     refine bodyPost_ret (results_tmp2 rfl _ _ _) rfl ?_
     rw [hpq.out]
     exact ⟨_, rfl, RSl.nil_, hw4⟩
    | false =>
     have hbq : bo = 0 := by rw [Hbo.out]; simp
     have hf := Lib.hid (hfl.out hbq _ hw4)
     have hpc := Hp1.out hbq
     obtain ⟨pl, pc⟩ := p
     have hpc' : pc = 0 := hpc
     subst hpc'
     have z1 := x1.cell 0
     have l1 := x1.lt
     have z2 := x2.cell 0
     have l2 := x2.lt
     dsimp only at hf
     clear hpc hfl Hp0 Hp1 Hbo hbq
     go_wp2_with fail
     refine hf.out.mono ?_
     rintro e w5 ⟨v, rfl, hv, hb5⟩
     have hw5 := below_via hw4 hb5 hw4.size
     have Hv := Lib.hid ((RSl.fair RFlaw.fair).mono (T := New w) hv (fun y hy _ => Nat.le_trans hw4.size hy))
     clear z1 l1 z2 l2 x1 x2 hb5 hv hf
     go_wp2_with fail
     refine bodyPost_ret (results_tmp2 rfl _ _ _) rfl ?_
     exact ⟨_, rfl, Hv.out, hw5⟩
  ·have hbq : bo = 1 := by rw [Hbo.out, if_pos (.inr e2)]
   subst hbq
   have hpq := Lib.hid (Hp0.out (by decide))
   have b2 : (g2 != 0) = true := by simpa using e2
   clear e2
   go_wp2_with fail
   refine bodyPost_ret (results_tmp2 rfl _ _ _) rfl ?_
   rw [hpq.out]
   exact ⟨_, rfl, RSl.nil_, hw2⟩
 ·have hbq : bo = 1 := by rw [Hbo.out, if_pos (.inl e1)]
  subst hbq
  have hpq := Lib.hid (Hp0.out (by decide))
  have b1 : (g1 != 0) = true := by simpa using e1
  clear e1
  go_wp2_with fail
  refine bodyPost_ret (results_tmp2 rfl _ _ _) rfl ?_
  rw [hpq.out]
  exact ⟨_, rfl, RSl.nil_, hw1⟩
theorem flaw_fieldsR : Tryz.prog.underlying 60 = some (.struct (Tryz.prog.fieldsOf 60)) := by kernel_rfl
theorem flaw_heldR : Tryz.prog.stoodInHeld 60 = false := by kernel_rfl
theorem flaw_guardR : Tryz.prog.eqGuardType Tryz.prog.depth 60 = false := by kernel_rfl
theorem run_neq_flawR (p : FlawD) (W : World) : (binOp .neq 60 (.agg #[.string p.type, .int .i64 p.id, .int .i64 p.why]) (.agg #[.string p.type, .int .i64 p.id, .int .i64 p.why])).run Tryz.prog W = .ok (.bool false) W := by
 have h := run_equalIn_agg (P := Tryz.prog) W 9999 60 #[.string p.type, .int .i64 p.id, .int .i64 p.why] #[.string p.type, .int .i64 p.id, .int .i64 p.why] flaw_fieldsR flaw_heldR
 rw [run_neq_struct, h]
 simp [go_sem]
theorem sameFlaws_any (S S' : Nat → Prop) (v v' : Value) (l : List FlawD) (w : World) (h1 : RSl 3 32 RFlaw S w [v] l) (h2 : RSl 3 32 RFlaw S' w [v'] l) : Calls Tryz.prog 8 #[v, v'] w (Ret w (.bool true)) := by
 obtain ⟨A, c, rfl, -, hlb⟩ := h1.form
 obtain ⟨A', c', rfl, -, -⟩ := h2.form
 have H1 := Lib.hid h1
 have H2 := Lib.hid h2
 clear h1 h2
 go_enter Tryz.func8, Tryz.ntmps8
 go_wp2_with fail
 go_loopw [13] (fun i wr => ∃ k : Nat, i = .int .i64 k ∧ k ≤ l.length ∧ Below w.heap.size w wr) (fun i _ => l.length - (intOf i).toNat)
 case atStart => exact ⟨0, rfl, Nat.zero_le _, Below.here w⟩
 case round =>
  obtain ⟨k, rfl, hk, hb⟩ := hrel
  by_cases hlt : k < l.length
  ·have hlt' : (k : Int) < (l.length : Int) := by omega
   obtain ⟨g, o, es, rfl, hS, hg, hes, hr, hc⟩ := ((RSl.fair RFlaw.fair).below H1.out hb).at_ hlt
   obtain ⟨g', o', es', rfl, hS', hg', hes', hr', hc'⟩ := ((RSl.fair RFlaw.fair).below H2.out hb).at_ hlt
   obtain ⟨p, hpe⟩ : ∃ p, p = l[k] := ⟨_, rfl⟩
   rw [← hpe] at hr hr'
   clear hpe
   have e1 : es = flawCells p := hr
   have e2 : es' = flawCells p := hr'
   subst e1 e2
   have c0 : wr.cell? ⟨g, o + k * 3, none⟩ = some (.string p.type) := hc.at_ 0 rfl
   have d0 : wr.cell? ⟨g', o' + k * 3, none⟩ = some (.string p.type) := hc'.at_ 0 rfl
   have c1 : wr.cell? ⟨g, o + k * 3 + 1, none⟩ = some (.int .i64 p.id) := hc.at_ 1 rfl
   have d1 : wr.cell? ⟨g', o' + k * 3 + 1, none⟩ = some (.int .i64 p.id) := hc'.at_ 1 rfl
   have c2 : wr.cell? ⟨g, o + k * 3 + 2, none⟩ = some (.int .i64 p.why) := hc.at_ 2 rfl
   have d2 : wr.cell? ⟨g', o' + k * 3 + 2, none⟩ = some (.int .i64 p.why) := hc'.at_ 2 rfl
   have hgd := flaw_guardR
   have hneq := fun W => run_neq_flawR p W
   clear hr hr' hc hc' hes hes' hS hS'
   go_wp2_with fail
   go_quiet (fail)
   go_wp2_with fail
   go_roundw
   case rel => exact ⟨k + 1, by go_num, by omega, below_drewN hb _⟩
   case measure => simp [intOf]; omega
  ·obtain rfl : k = l.length := by omega
   go_wp2_with fail
   go_ret
   exact ⟨rfl, hb⟩
theorem newBook {B : Nat} {a w : World} (_ : Below B a w) : Box (w.alloc (.cells #[.slice none 0 0] 24)) w.heap.size 24 [.slice none 0 0] := Box.new _ _ _
theorem newBook_size {B : Nat} {a w : World} (_ : Below B a w) : (w.alloc (.cells #[.slice none 0 0] 24)).heap.size = w.heap.size + 1 := by simp
theorem fin_two {B : Nat} {a W : World} {g9 g10 l1 u1 l2 u2 : Nat} {x x' y y' : Value} {b b' : BookD} (h9 : Box W g9 24 [x]) (h10 : Box W g10 24 [x']) (hne : g9 ≠ g10)
  (hrb : RSl 5 96 RType (fun y => l1 ≤ y ∧ y < u1) W [y] b) (hrv : RSl 5 96 RType (fun y => l2 ≤ y ∧ y < u2) W [y'] b') (hB : Below B a W) (n1 : g9 < l1 ∨ u1 ≤ g9) (n2 : g9 < l2 ∨ u2 ≤ g9) (n3 : g10 < l1 ∨ u1 ≤ g10) (n4 : g10 < l2 ∨ u2 ≤ g10)
  (b9 : B ≤ g9) (b10 : B ≤ g10) (b1 : B ≤ l1) (b2 : B ≤ l2) :
  Box ((W.setCell ⟨g9, 0, none⟩ y).setCell ⟨g10, 0, none⟩ y') g9 24 [y] ∧ Box ((W.setCell ⟨g9, 0, none⟩ y).setCell ⟨g10, 0, none⟩ y') g10 24 [y'] ∧
  RSl 5 96 RType (fun y => B ≤ y) ((W.setCell ⟨g9, 0, none⟩ y).setCell ⟨g10, 0, none⟩ y') [y] b ∧ RSl 5 96 RType (fun y => B ≤ y) ((W.setCell ⟨g9, 0, none⟩ y).setCell ⟨g10, 0, none⟩ y') [y'] b' ∧
  Below B a ((W.setCell ⟨g9, 0, none⟩ y).setCell ⟨g10, 0, none⟩ y') := by
 have z9 := h9.set_ 0 y
 have z10 := h10.far (p := ⟨g9, 0, none⟩) (fun e => hne e.symm) y
 have k1 : Keep (fun y => l1 ≤ y ∧ y < u1) W (W.setCell ⟨g9, 0, none⟩ y) := Keep.setCell W (a := ⟨g9, 0, none⟩) y (by show ¬ (l1 ≤ g9 ∧ g9 < u1); omega)
 have k2 : Keep (fun y => l2 ≤ y ∧ y < u2) W (W.setCell ⟨g9, 0, none⟩ y) := Keep.setCell W (a := ⟨g9, 0, none⟩) y (by show ¬ (l2 ≤ g9 ∧ g9 < u2); omega)
 refine ⟨z9.far (p := ⟨g10, 0, none⟩) hne y', z10.set_ 0 y', ?_, ?_, (hB.setCell (p := ⟨g9, 0, none⟩) b9 y).setCell (p := ⟨g10, 0, none⟩) b10 y'⟩
 ·exact (RSl.fair RType.fair).mono ((RSl.fair RType.fair).keep ((RSl.fair RType.fair).keep hrb k1) (Keep.setCell _ (a := ⟨g10, 0, none⟩) y' (by show ¬ (l1 ≤ g10 ∧ g10 < u1); omega))) (fun q hq _ => Nat.le_trans b1 hq.1)
 ·exact (RSl.fair RType.fair).mono ((RSl.fair RType.fair).keep ((RSl.fair RType.fair).keep hrv k2) (Keep.setCell _ (a := ⟨g10, 0, none⟩) y' (by show ¬ (l2 ≤ g10 ∧ g10 < u2); omega))) (fun q hq _ => Nat.le_trans b2 hq.1)
theorem ne_boxes {W : World} {g g' : Nat} {t t' : TypeId} {cs cs' : List Value} (_ : Box W g t cs) (_ : Box W g' t' cs') (h : g ≠ g') : g ≠ g' := h
theorem far_two {W : World} {g9 g10 : Nat} {x : Value} {cs : List Value} (_ : Box W g9 24 [x]) (h10 : Box W g10 24 cs) (h : g9 ≠ g10) (u : Value) : Box (W.setCell ⟨g9, 0, none⟩ u) g10 24 cs := h10.far (p := ⟨g9, 0, none⟩) (fun e => h e.symm) u
theorem compatFlaws_any (S : Nat → Prop) (vw vr : Value) (bw br : BookD) (name : ByteArray) (w : World) (hb1 : RSl 5 96 RType S w [vw] bw) (hb2 : RSl 5 96 RType S w [vr] br) (hW : Words w) (hM : MaxL w) (o1 : BookOk bw) (o2 : BookOk br) (s1 : BookSmall bw) (s2 : BookSmall br) :
  Calls Tryz.prog 3 #[.agg #[vw], .agg #[vr], .string name] w (Ret w (.bool true)) := by
 obtain ⟨AW, cw, rfl, -, -⟩ := hb1.form
 obtain ⟨AR, cr, rfl, -, -⟩ := hb2.form
 obtain ⟨x1, x2, x3⟩ := boxes2 w [.slice AW bw.length cw] [.slice AR br.length cr] 24 24
 have H1 := Lib.hid hb1
 have H2 := Lib.hid hb2
 have HW := Lib.hid hW
 have hfl := Lib.hid (fun (S' : Nat → Prop) (A1 A2 : Option Addr) (c1 c2 : Nat) W (h1 : RSl 5 96 RType S' W [.slice A1 bw.length c1] bw) (h2 : RSl 5 96 RType S' W [.slice A2 br.length c2] br) (h : Below w.heap.size w W) => flaws_any S' _ _ bw br name W h1 h2 (hW.below h) o1 o2)
 have hfo := Lib.hid (fun W (h : Below w.heap.size w W) => flawsOf_any S _ _ bw br name W ((RSl.fair RType.fair).below hb1 h) ((RSl.fair RType.fair).below hb2 h) (hM.below h) o1 o2 s1 s2)
 obtain ⟨p, hp⟩ : ∃ p, p = flawsF bw br name := ⟨_, rfl⟩
 rw [← hp] at hfl hfo
 obtain ⟨pl, pc⟩ := p
 clear hb1 hb2 hW hM o1 o2 s1 s2 hp
 go_enter Tryz.func3, Tryz.ntmps3
 go_upto_region 1 with fail
 generalize (World.alloc _ (Obj.cells [.slice AR br.length cr].toArray 24)) = W0 at x1 x2 x3 ⊢
 have hup : ∀ W', RowKit.Below W0.heap.size W0 W' → RowKit.Below w.heap.size w W' := fun W' h => below_via x3 h x3.size
 have HSK := Lib.hid (fun (W' : World) (h : RowKit.Below W0.heap.size W0 W') => (⟨(x1.below h x1.lt).cell 0, (x2.below h x2.lt).cell 0⟩ : World.cell? W' ⟨w.heap.size, 0, none⟩ = some (.slice AW bw.length cw) ∧ World.cell? W' ⟨w.heap.size + 1, 0, none⟩ = some (.slice AR br.length cr)))
 have HCB := Lib.hid (fun (W' : World) (h : RowKit.Below W0.heap.size W0 W') => copyBook_any S (.slice AW bw.length cw) bw W' ((RSl.fair RType.fair).below H1.out (hup W' h)))
 have HCV := Lib.hid (fun (W' : World) (h : RowKit.Below W0.heap.size W0 W') => copyBook_any S (.slice AR br.length cr) br W' ((RSl.fair RType.fair).below H2.out (hup W' h)))
 have HUP := Lib.hid hup
 clear hup
 go_cut [7, 8] from 13 to 16 (fun p q W' => ∃ g9 g10 A1 c1 A2 c2, p = .pointer (some ⟨g9, 0, none⟩) ∧ q = .pointer (some ⟨g10, 0, none⟩) ∧ Box W' g9 24 [.slice A1 bw.length c1] ∧ Box W' g10 24 [.slice A2 br.length c2] ∧
   RSl 5 96 RType (fun y => W0.heap.size ≤ y) W' [.slice A1 bw.length c1] bw ∧ RSl 5 96 RType (fun y => W0.heap.size ≤ y) W' [.slice A2 br.length c2] br ∧ RowKit.Below W0.heap.size W0 W')
 case first =>
  have hB := below_drew (Below.refl W0.heap.size W0)
  have hS := HSK.out _ hB
  have HsW : Hid (W0.drew.heap.size = W0.heap.size) := rfl
  refine late_start (fun W' => World.cell? W' ⟨w.heap.size, 0, none⟩ = some (.slice AW bw.length cw) ∧ World.cell? W' ⟨w.heap.size + 1, 0, none⟩ = some (.slice AR br.length cr)) 6 (by kernel_rfl) ?_
  generalize W0.drew = Wb at hB hS HsW ⊢
  refine tkL 0 hS ?_
  try simp only [pu]
  refine tkL 2 hS ?_
  try simp only [pu]
  refine late_three (i := 1) (j := 4) (k := 5) rfl rfl rfl (by kernel_rfl) (fun K hK => ?_) (fun K hK => ?_) (fun K hK => ?_)
  ·go_simp
   refine (HCB.out _ hB).mono ?_
   rintro e wb ⟨A1, c1, rfl, hrb0, hbb⟩
   have hrb := cut_new (RSl.fair RType.fair) hrb0
   have hsb := hbb.size
   (first | (replace hG9 := hG9.below hbb hG9.lt) | skip)
   (first | (replace hG10 := hG10.below hbb hG10.lt) | skip)
   replace hB := below_via hB hbb hB.size
   clear hS hrb0 hbb
   have hS := HSK.out _ hB
   refine hK.out _ _ (fun _ => hS) ?_
   clear hK K
   try simp only [pu]
   refine late_three (i := 3) (j := 4) (k := 5) rfl rfl rfl (by kernel_rfl) (fun K hK => ?_) (fun K hK => ?_) (fun K hK => ?_)
   ·go_simp
    refine (HCV.out _ hB).mono ?_
    rintro e wv ⟨A2, c2, rfl, hrv0, hbv⟩
    have hrv := cut_new (RSl.fair RType.fair) hrv0
    have hsv := hbv.size
    (first | (replace hrb := (RSl.fair RType.fair).below hrb hbv) | skip)
    (first | (replace hG9 := hG9.below hbv hG9.lt) | skip)
    (first | (replace hG10 := hG10.below hbv hG10.lt) | skip)
    replace hB := below_via hB hbv hB.size
    clear hS hrv0 hbv
    have hS := HSK.out _ hB
    refine hK.out _ _ (fun _ => hS) ?_
    clear hK K
    try simp only [pu]
    refine late_two (i := 4) (j := 5) rfl rfl (by kernel_rfl) (fun K hK => ?_) (fun K hK => ?_)
    ·go_simp
     have hG9 := newBook hB
     have Hs9 := Lib.hid (newBook_size hB)
     (first | (replace hrb := (RSl.fair RType.fair).keep hrb (Keep.alloc _ _ (.cells #[.slice none 0 0] 24))) | skip)
     (first | (replace hrv := (RSl.fair RType.fair).keep hrv (Keep.alloc _ _ (.cells #[.slice none 0 0] 24))) | skip)
     (first | (replace hG10 := hG10.alloc (.cells #[.slice none 0 0] 24)) | skip)
     replace hB := hB.alloc hB.size (.cells #[.slice none 0 0] 24)
     clear hS
     have hS := HSK.out _ hB
     refine hK.out _ _ (fun _ => hS) ?_
     clear hK K
     try simp only [pu]
     generalize World.alloc _ (.cells #[.slice none 0 0] 24) = W9 at *
     refine late_one (i := 5) rfl (by kernel_rfl) (fun K hK => ?_)
     go_simp
     have hG10 := newBook hB
     have Hs10 := Lib.hid (newBook_size hB)
     (first | (replace hrb := (RSl.fair RType.fair).keep hrb (Keep.alloc _ _ (.cells #[.slice none 0 0] 24))) | skip)
     (first | (replace hrv := (RSl.fair RType.fair).keep hrv (Keep.alloc _ _ (.cells #[.slice none 0 0] 24))) | skip)
     (first | (replace hG9 := hG9.alloc (.cells #[.slice none 0 0] 24)) | skip)
     replace hB := hB.alloc hB.size (.cells #[.slice none 0 0] 24)
     clear hS
     have hS := HSK.out _ hB
     refine hK.out _ _ (fun _ => hS) ?_
     clear hK K
     try simp only [pu]
     generalize World.alloc _ (.cells #[.slice none 0 0] 24) = W10 at *
     have hs9 := Hs9.out
     have hs10 := Hs10.out
     have hsW := HsW.out
     have hne : _ ≠ _ := ne_boxes hG9 hG10 (by go_light; omega)
     clear hs9 hs10 hsW
     have r9 := hG9.cell 0
     have fr9 := hG9.frozen 0
     have lt9 := hG9.lt
     simp only [List.getElem?_cons_zero] at r9
     refine late_one (i := 6) rfl (by kernel_rfl) (fun K hK => ?_)
     go_simp
     have z10 := far_two hG9 hG10 hne (.slice A1 bw.length c1)
     have r10 := z10.cell 0
     have fr10 := z10.frozen 0
     have lt10 := z10.lt
     simp only [List.getElem?_cons_zero] at r10
     clear r9 fr9 lt9
     refine hK.out _ _ (fun h => absurd h (by decide)) ?_
     clear hK K
     try simp only [pu]
     refine late_one (i := 7) rfl (by kernel_rfl) (fun K hK => ?_)
     go_simp
     clear r10 fr10 lt10 z10
     refine hK.out _ _ (fun h => absurd h (by decide)) ?_
     clear hK K
     try simp only [pu]
     refine late_done (by kernel_rfl) ?_ _
     go_wp2_with fail
     have hs9 := Hs9.out
     have hs10 := Hs10.out
     have hsW := HsW.out
     go_meet
     case rel => exact ⟨_, _, A1, c1, A2, c2, rfl, rfl, fin_two hG9 hG10 hne hrb hrv hB (by go_light; omega) (by go_light; omega) (by go_light; omega) (by go_light; omega) (by go_light; omega) (by go_light; omega) (by go_light; omega) (by go_light; omega)⟩
    ·go_simp
     have hG10 := newBook hB
     have Hs10 := Lib.hid (newBook_size hB)
     (first | (replace hrb := (RSl.fair RType.fair).keep hrb (Keep.alloc _ _ (.cells #[.slice none 0 0] 24))) | skip)
     (first | (replace hrv := (RSl.fair RType.fair).keep hrv (Keep.alloc _ _ (.cells #[.slice none 0 0] 24))) | skip)
     (first | (replace hG9 := hG9.alloc (.cells #[.slice none 0 0] 24)) | skip)
     replace hB := hB.alloc hB.size (.cells #[.slice none 0 0] 24)
     clear hS
     have hS := HSK.out _ hB
     refine hK.out _ _ (fun _ => hS) ?_
     clear hK K
     try simp only [pu]
     generalize World.alloc _ (.cells #[.slice none 0 0] 24) = W10 at *
     refine late_one (i := 4) rfl (by kernel_rfl) (fun K hK => ?_)
     go_simp
     have hG9 := newBook hB
     have Hs9 := Lib.hid (newBook_size hB)
     (first | (replace hrb := (RSl.fair RType.fair).keep hrb (Keep.alloc _ _ (.cells #[.slice none 0 0] 24))) | skip)
     (first | (replace hrv := (RSl.fair RType.fair).keep hrv (Keep.alloc _ _ (.cells #[.slice none 0 0] 24))) | skip)
     (first | (replace hG10 := hG10.alloc (.cells #[.slice none 0 0] 24)) | skip)
     replace hB := hB.alloc hB.size (.cells #[.slice none 0 0] 24)
     clear hS
     have hS := HSK.out _ hB
     refine hK.out _ _ (fun _ => hS) ?_
     clear hK K
     try simp only [pu]
     generalize World.alloc _ (.cells #[.slice none 0 0] 24) = W9 at *
     have hs9 := Hs9.out
     have hs10 := Hs10.out
     have hsW := HsW.out
     have hne : _ ≠ _ := ne_boxes hG9 hG10 (by go_light; omega)
     clear hs9 hs10 hsW
     have r9 := hG9.cell 0
     have fr9 := hG9.frozen 0
     have lt9 := hG9.lt
     simp only [List.getElem?_cons_zero] at r9
     refine late_one (i := 6) rfl (by kernel_rfl) (fun K hK => ?_)
     go_simp
     have z10 := far_two hG9 hG10 hne (.slice A1 bw.length c1)
     have r10 := z10.cell 0
     have fr10 := z10.frozen 0
     have lt10 := z10.lt
     simp only [List.getElem?_cons_zero] at r10
     clear r9 fr9 lt9
     refine hK.out _ _ (fun h => absurd h (by decide)) ?_
     clear hK K
     try simp only [pu]
     refine late_one (i := 7) rfl (by kernel_rfl) (fun K hK => ?_)
     go_simp
     clear r10 fr10 lt10 z10
     refine hK.out _ _ (fun h => absurd h (by decide)) ?_
     clear hK K
     try simp only [pu]
     refine late_done (by kernel_rfl) ?_ _
     go_wp2_with fail
     have hs9 := Hs9.out
     have hs10 := Hs10.out
     have hsW := HsW.out
     go_meet
     case rel => exact ⟨_, _, A1, c1, A2, c2, rfl, rfl, fin_two hG9 hG10 hne hrb hrv hB (by go_light; omega) (by go_light; omega) (by go_light; omega) (by go_light; omega) (by go_light; omega) (by go_light; omega) (by go_light; omega) (by go_light; omega)⟩
   ·go_simp
    have hG9 := newBook hB
    have Hs9 := Lib.hid (newBook_size hB)
    (first | (replace hrb := (RSl.fair RType.fair).keep hrb (Keep.alloc _ _ (.cells #[.slice none 0 0] 24))) | skip)
    (first | (replace hrv := (RSl.fair RType.fair).keep hrv (Keep.alloc _ _ (.cells #[.slice none 0 0] 24))) | skip)
    (first | (replace hG10 := hG10.alloc (.cells #[.slice none 0 0] 24)) | skip)
    replace hB := hB.alloc hB.size (.cells #[.slice none 0 0] 24)
    clear hS
    have hS := HSK.out _ hB
    refine hK.out _ _ (fun _ => hS) ?_
    clear hK K
    try simp only [pu]
    generalize World.alloc _ (.cells #[.slice none 0 0] 24) = W9 at *
    refine late_two (i := 3) (j := 5) rfl rfl (by kernel_rfl) (fun K hK => ?_) (fun K hK => ?_)
    ·go_simp
     refine (HCV.out _ hB).mono ?_
     rintro e wv ⟨A2, c2, rfl, hrv0, hbv⟩
     have hrv := cut_new (RSl.fair RType.fair) hrv0
     have hsv := hbv.size
     (first | (replace hrb := (RSl.fair RType.fair).below hrb hbv) | skip)
     (first | (replace hG9 := hG9.below hbv hG9.lt) | skip)
     (first | (replace hG10 := hG10.below hbv hG10.lt) | skip)
     replace hB := below_via hB hbv hB.size
     clear hS hrv0 hbv
     have hS := HSK.out _ hB
     refine hK.out _ _ (fun _ => hS) ?_
     clear hK K
     try simp only [pu]
     refine late_one (i := 5) rfl (by kernel_rfl) (fun K hK => ?_)
     go_simp
     have hG10 := newBook hB
     have Hs10 := Lib.hid (newBook_size hB)
     (first | (replace hrb := (RSl.fair RType.fair).keep hrb (Keep.alloc _ _ (.cells #[.slice none 0 0] 24))) | skip)
     (first | (replace hrv := (RSl.fair RType.fair).keep hrv (Keep.alloc _ _ (.cells #[.slice none 0 0] 24))) | skip)
     (first | (replace hG9 := hG9.alloc (.cells #[.slice none 0 0] 24)) | skip)
     replace hB := hB.alloc hB.size (.cells #[.slice none 0 0] 24)
     clear hS
     have hS := HSK.out _ hB
     refine hK.out _ _ (fun _ => hS) ?_
     clear hK K
     try simp only [pu]
     generalize World.alloc _ (.cells #[.slice none 0 0] 24) = W10 at *
     have hs9 := Hs9.out
     have hs10 := Hs10.out
     have hsW := HsW.out
     have hne : _ ≠ _ := ne_boxes hG9 hG10 (by go_light; omega)
     clear hs9 hs10 hsW
     have r9 := hG9.cell 0
     have fr9 := hG9.frozen 0
     have lt9 := hG9.lt
     simp only [List.getElem?_cons_zero] at r9
     refine late_one (i := 6) rfl (by kernel_rfl) (fun K hK => ?_)
     go_simp
     have z10 := far_two hG9 hG10 hne (.slice A1 bw.length c1)
     have r10 := z10.cell 0
     have fr10 := z10.frozen 0
     have lt10 := z10.lt
     simp only [List.getElem?_cons_zero] at r10
     clear r9 fr9 lt9
     refine hK.out _ _ (fun h => absurd h (by decide)) ?_
     clear hK K
     try simp only [pu]
     refine late_one (i := 7) rfl (by kernel_rfl) (fun K hK => ?_)
     go_simp
     clear r10 fr10 lt10 z10
     refine hK.out _ _ (fun h => absurd h (by decide)) ?_
     clear hK K
     try simp only [pu]
     refine late_done (by kernel_rfl) ?_ _
     go_wp2_with fail
     have hs9 := Hs9.out
     have hs10 := Hs10.out
     have hsW := HsW.out
     go_meet
     case rel => exact ⟨_, _, A1, c1, A2, c2, rfl, rfl, fin_two hG9 hG10 hne hrb hrv hB (by go_light; omega) (by go_light; omega) (by go_light; omega) (by go_light; omega) (by go_light; omega) (by go_light; omega) (by go_light; omega) (by go_light; omega)⟩
    ·go_simp
     have hG10 := newBook hB
     have Hs10 := Lib.hid (newBook_size hB)
     (first | (replace hrb := (RSl.fair RType.fair).keep hrb (Keep.alloc _ _ (.cells #[.slice none 0 0] 24))) | skip)
     (first | (replace hrv := (RSl.fair RType.fair).keep hrv (Keep.alloc _ _ (.cells #[.slice none 0 0] 24))) | skip)
     (first | (replace hG9 := hG9.alloc (.cells #[.slice none 0 0] 24)) | skip)
     replace hB := hB.alloc hB.size (.cells #[.slice none 0 0] 24)
     clear hS
     have hS := HSK.out _ hB
     refine hK.out _ _ (fun _ => hS) ?_
     clear hK K
     try simp only [pu]
     generalize World.alloc _ (.cells #[.slice none 0 0] 24) = W10 at *
     refine late_one (i := 3) rfl (by kernel_rfl) (fun K hK => ?_)
     go_simp
     refine (HCV.out _ hB).mono ?_
     rintro e wv ⟨A2, c2, rfl, hrv0, hbv⟩
     have hrv := cut_new (RSl.fair RType.fair) hrv0
     have hsv := hbv.size
     (first | (replace hrb := (RSl.fair RType.fair).below hrb hbv) | skip)
     (first | (replace hG9 := hG9.below hbv hG9.lt) | skip)
     (first | (replace hG10 := hG10.below hbv hG10.lt) | skip)
     replace hB := below_via hB hbv hB.size
     clear hS hrv0 hbv
     have hS := HSK.out _ hB
     refine hK.out _ _ (fun _ => hS) ?_
     clear hK K
     try simp only [pu]
     have hs9 := Hs9.out
     have hs10 := Hs10.out
     have hsW := HsW.out
     have hne : _ ≠ _ := ne_boxes hG9 hG10 (by go_light; omega)
     clear hs9 hs10 hsW
     have r9 := hG9.cell 0
     have fr9 := hG9.frozen 0
     have lt9 := hG9.lt
     simp only [List.getElem?_cons_zero] at r9
     refine late_one (i := 6) rfl (by kernel_rfl) (fun K hK => ?_)
     go_simp
     have z10 := far_two hG9 hG10 hne (.slice A1 bw.length c1)
     have r10 := z10.cell 0
     have fr10 := z10.frozen 0
     have lt10 := z10.lt
     simp only [List.getElem?_cons_zero] at r10
     clear r9 fr9 lt9
     refine hK.out _ _ (fun h => absurd h (by decide)) ?_
     clear hK K
     try simp only [pu]
     refine late_one (i := 7) rfl (by kernel_rfl) (fun K hK => ?_)
     go_simp
     clear r10 fr10 lt10 z10
     refine hK.out _ _ (fun h => absurd h (by decide)) ?_
     clear hK K
     try simp only [pu]
     refine late_done (by kernel_rfl) ?_ _
     go_wp2_with fail
     have hs9 := Hs9.out
     have hs10 := Hs10.out
     have hsW := HsW.out
     go_meet
     case rel => exact ⟨_, _, A1, c1, A2, c2, rfl, rfl, fin_two hG9 hG10 hne hrb hrv hB (by go_light; omega) (by go_light; omega) (by go_light; omega) (by go_light; omega) (by go_light; omega) (by go_light; omega) (by go_light; omega) (by go_light; omega)⟩
   ·go_simp
    have hG10 := newBook hB
    have Hs10 := Lib.hid (newBook_size hB)
    (first | (replace hrb := (RSl.fair RType.fair).keep hrb (Keep.alloc _ _ (.cells #[.slice none 0 0] 24))) | skip)
    (first | (replace hrv := (RSl.fair RType.fair).keep hrv (Keep.alloc _ _ (.cells #[.slice none 0 0] 24))) | skip)
    (first | (replace hG9 := hG9.alloc (.cells #[.slice none 0 0] 24)) | skip)
    replace hB := hB.alloc hB.size (.cells #[.slice none 0 0] 24)
    clear hS
    have hS := HSK.out _ hB
    refine hK.out _ _ (fun _ => hS) ?_
    clear hK K
    try simp only [pu]
    generalize World.alloc _ (.cells #[.slice none 0 0] 24) = W10 at *
    refine late_two (i := 3) (j := 4) rfl rfl (by kernel_rfl) (fun K hK => ?_) (fun K hK => ?_)
    ·go_simp
     refine (HCV.out _ hB).mono ?_
     rintro e wv ⟨A2, c2, rfl, hrv0, hbv⟩
     have hrv := cut_new (RSl.fair RType.fair) hrv0
     have hsv := hbv.size
     (first | (replace hrb := (RSl.fair RType.fair).below hrb hbv) | skip)
     (first | (replace hG9 := hG9.below hbv hG9.lt) | skip)
     (first | (replace hG10 := hG10.below hbv hG10.lt) | skip)
     replace hB := below_via hB hbv hB.size
     clear hS hrv0 hbv
     have hS := HSK.out _ hB
     refine hK.out _ _ (fun _ => hS) ?_
     clear hK K
     try simp only [pu]
     refine late_one (i := 4) rfl (by kernel_rfl) (fun K hK => ?_)
     go_simp
     have hG9 := newBook hB
     have Hs9 := Lib.hid (newBook_size hB)
     (first | (replace hrb := (RSl.fair RType.fair).keep hrb (Keep.alloc _ _ (.cells #[.slice none 0 0] 24))) | skip)
     (first | (replace hrv := (RSl.fair RType.fair).keep hrv (Keep.alloc _ _ (.cells #[.slice none 0 0] 24))) | skip)
     (first | (replace hG10 := hG10.alloc (.cells #[.slice none 0 0] 24)) | skip)
     replace hB := hB.alloc hB.size (.cells #[.slice none 0 0] 24)
     clear hS
     have hS := HSK.out _ hB
     refine hK.out _ _ (fun _ => hS) ?_
     clear hK K
     try simp only [pu]
     generalize World.alloc _ (.cells #[.slice none 0 0] 24) = W9 at *
     have hs9 := Hs9.out
     have hs10 := Hs10.out
     have hsW := HsW.out
     have hne : _ ≠ _ := ne_boxes hG9 hG10 (by go_light; omega)
     clear hs9 hs10 hsW
     have r9 := hG9.cell 0
     have fr9 := hG9.frozen 0
     have lt9 := hG9.lt
     simp only [List.getElem?_cons_zero] at r9
     refine late_one (i := 6) rfl (by kernel_rfl) (fun K hK => ?_)
     go_simp
     have z10 := far_two hG9 hG10 hne (.slice A1 bw.length c1)
     have r10 := z10.cell 0
     have fr10 := z10.frozen 0
     have lt10 := z10.lt
     simp only [List.getElem?_cons_zero] at r10
     clear r9 fr9 lt9
     refine hK.out _ _ (fun h => absurd h (by decide)) ?_
     clear hK K
     try simp only [pu]
     refine late_one (i := 7) rfl (by kernel_rfl) (fun K hK => ?_)
     go_simp
     clear r10 fr10 lt10 z10
     refine hK.out _ _ (fun h => absurd h (by decide)) ?_
     clear hK K
     try simp only [pu]
     refine late_done (by kernel_rfl) ?_ _
     go_wp2_with fail
     have hs9 := Hs9.out
     have hs10 := Hs10.out
     have hsW := HsW.out
     go_meet
     case rel => exact ⟨_, _, A1, c1, A2, c2, rfl, rfl, fin_two hG9 hG10 hne hrb hrv hB (by go_light; omega) (by go_light; omega) (by go_light; omega) (by go_light; omega) (by go_light; omega) (by go_light; omega) (by go_light; omega) (by go_light; omega)⟩
    ·go_simp
     have hG9 := newBook hB
     have Hs9 := Lib.hid (newBook_size hB)
     (first | (replace hrb := (RSl.fair RType.fair).keep hrb (Keep.alloc _ _ (.cells #[.slice none 0 0] 24))) | skip)
     (first | (replace hrv := (RSl.fair RType.fair).keep hrv (Keep.alloc _ _ (.cells #[.slice none 0 0] 24))) | skip)
     (first | (replace hG10 := hG10.alloc (.cells #[.slice none 0 0] 24)) | skip)
     replace hB := hB.alloc hB.size (.cells #[.slice none 0 0] 24)
     clear hS
     have hS := HSK.out _ hB
     refine hK.out _ _ (fun _ => hS) ?_
     clear hK K
     try simp only [pu]
     generalize World.alloc _ (.cells #[.slice none 0 0] 24) = W9 at *
     refine late_one (i := 3) rfl (by kernel_rfl) (fun K hK => ?_)
     go_simp
     refine (HCV.out _ hB).mono ?_
     rintro e wv ⟨A2, c2, rfl, hrv0, hbv⟩
     have hrv := cut_new (RSl.fair RType.fair) hrv0
     have hsv := hbv.size
     (first | (replace hrb := (RSl.fair RType.fair).below hrb hbv) | skip)
     (first | (replace hG9 := hG9.below hbv hG9.lt) | skip)
     (first | (replace hG10 := hG10.below hbv hG10.lt) | skip)
     replace hB := below_via hB hbv hB.size
     clear hS hrv0 hbv
     have hS := HSK.out _ hB
     refine hK.out _ _ (fun _ => hS) ?_
     clear hK K
     try simp only [pu]
     have hs9 := Hs9.out
     have hs10 := Hs10.out
     have hsW := HsW.out
     have hne : _ ≠ _ := ne_boxes hG9 hG10 (by go_light; omega)
     clear hs9 hs10 hsW
     have r9 := hG9.cell 0
     have fr9 := hG9.frozen 0
     have lt9 := hG9.lt
     simp only [List.getElem?_cons_zero] at r9
     refine late_one (i := 6) rfl (by kernel_rfl) (fun K hK => ?_)
     go_simp
     have z10 := far_two hG9 hG10 hne (.slice A1 bw.length c1)
     have r10 := z10.cell 0
     have fr10 := z10.frozen 0
     have lt10 := z10.lt
     simp only [List.getElem?_cons_zero] at r10
     clear r9 fr9 lt9
     refine hK.out _ _ (fun h => absurd h (by decide)) ?_
     clear hK K
     try simp only [pu]
     refine late_one (i := 7) rfl (by kernel_rfl) (fun K hK => ?_)
     go_simp
     clear r10 fr10 lt10 z10
     refine hK.out _ _ (fun h => absurd h (by decide)) ?_
     clear hK K
     try simp only [pu]
     refine late_done (by kernel_rfl) ?_ _
     go_wp2_with fail
     have hs9 := Hs9.out
     have hs10 := Hs10.out
     have hsW := HsW.out
     go_meet
     case rel => exact ⟨_, _, A1, c1, A2, c2, rfl, rfl, fin_two hG9 hG10 hne hrb hrv hB (by go_light; omega) (by go_light; omega) (by go_light; omega) (by go_light; omega) (by go_light; omega) (by go_light; omega) (by go_light; omega) (by go_light; omega)⟩
  ·go_simp
   have hG9 := newBook hB
   have Hs9 := Lib.hid (newBook_size hB)
   (first | (replace hrb := (RSl.fair RType.fair).keep hrb (Keep.alloc _ _ (.cells #[.slice none 0 0] 24))) | skip)
   (first | (replace hrv := (RSl.fair RType.fair).keep hrv (Keep.alloc _ _ (.cells #[.slice none 0 0] 24))) | skip)
   (first | (replace hG10 := hG10.alloc (.cells #[.slice none 0 0] 24)) | skip)
   replace hB := hB.alloc hB.size (.cells #[.slice none 0 0] 24)
   clear hS
   have hS := HSK.out _ hB
   refine hK.out _ _ (fun _ => hS) ?_
   clear hK K
   try simp only [pu]
   generalize World.alloc _ (.cells #[.slice none 0 0] 24) = W9 at *
   refine late_two (i := 1) (j := 5) rfl rfl (by kernel_rfl) (fun K hK => ?_) (fun K hK => ?_)
   ·go_simp
    refine (HCB.out _ hB).mono ?_
    rintro e wb ⟨A1, c1, rfl, hrb0, hbb⟩
    have hrb := cut_new (RSl.fair RType.fair) hrb0
    have hsb := hbb.size
    (first | (replace hG9 := hG9.below hbb hG9.lt) | skip)
    (first | (replace hG10 := hG10.below hbb hG10.lt) | skip)
    replace hB := below_via hB hbb hB.size
    clear hS hrb0 hbb
    have hS := HSK.out _ hB
    refine hK.out _ _ (fun _ => hS) ?_
    clear hK K
    try simp only [pu]
    refine late_two (i := 3) (j := 5) rfl rfl (by kernel_rfl) (fun K hK => ?_) (fun K hK => ?_)
    ·go_simp
     refine (HCV.out _ hB).mono ?_
     rintro e wv ⟨A2, c2, rfl, hrv0, hbv⟩
     have hrv := cut_new (RSl.fair RType.fair) hrv0
     have hsv := hbv.size
     (first | (replace hrb := (RSl.fair RType.fair).below hrb hbv) | skip)
     (first | (replace hG9 := hG9.below hbv hG9.lt) | skip)
     (first | (replace hG10 := hG10.below hbv hG10.lt) | skip)
     replace hB := below_via hB hbv hB.size
     clear hS hrv0 hbv
     have hS := HSK.out _ hB
     refine hK.out _ _ (fun _ => hS) ?_
     clear hK K
     try simp only [pu]
     refine late_one (i := 5) rfl (by kernel_rfl) (fun K hK => ?_)
     go_simp
     have hG10 := newBook hB
     have Hs10 := Lib.hid (newBook_size hB)
     (first | (replace hrb := (RSl.fair RType.fair).keep hrb (Keep.alloc _ _ (.cells #[.slice none 0 0] 24))) | skip)
     (first | (replace hrv := (RSl.fair RType.fair).keep hrv (Keep.alloc _ _ (.cells #[.slice none 0 0] 24))) | skip)
     (first | (replace hG9 := hG9.alloc (.cells #[.slice none 0 0] 24)) | skip)
     replace hB := hB.alloc hB.size (.cells #[.slice none 0 0] 24)
     clear hS
     have hS := HSK.out _ hB
     refine hK.out _ _ (fun _ => hS) ?_
     clear hK K
     try simp only [pu]
     generalize World.alloc _ (.cells #[.slice none 0 0] 24) = W10 at *
     have hs9 := Hs9.out
     have hs10 := Hs10.out
     have hsW := HsW.out
     have hne : _ ≠ _ := ne_boxes hG9 hG10 (by go_light; omega)
     clear hs9 hs10 hsW
     have r9 := hG9.cell 0
     have fr9 := hG9.frozen 0
     have lt9 := hG9.lt
     simp only [List.getElem?_cons_zero] at r9
     refine late_one (i := 6) rfl (by kernel_rfl) (fun K hK => ?_)
     go_simp
     have z10 := far_two hG9 hG10 hne (.slice A1 bw.length c1)
     have r10 := z10.cell 0
     have fr10 := z10.frozen 0
     have lt10 := z10.lt
     simp only [List.getElem?_cons_zero] at r10
     clear r9 fr9 lt9
     refine hK.out _ _ (fun h => absurd h (by decide)) ?_
     clear hK K
     try simp only [pu]
     refine late_one (i := 7) rfl (by kernel_rfl) (fun K hK => ?_)
     go_simp
     clear r10 fr10 lt10 z10
     refine hK.out _ _ (fun h => absurd h (by decide)) ?_
     clear hK K
     try simp only [pu]
     refine late_done (by kernel_rfl) ?_ _
     go_wp2_with fail
     have hs9 := Hs9.out
     have hs10 := Hs10.out
     have hsW := HsW.out
     go_meet
     case rel => exact ⟨_, _, A1, c1, A2, c2, rfl, rfl, fin_two hG9 hG10 hne hrb hrv hB (by go_light; omega) (by go_light; omega) (by go_light; omega) (by go_light; omega) (by go_light; omega) (by go_light; omega) (by go_light; omega) (by go_light; omega)⟩
    ·go_simp
     have hG10 := newBook hB
     have Hs10 := Lib.hid (newBook_size hB)
     (first | (replace hrb := (RSl.fair RType.fair).keep hrb (Keep.alloc _ _ (.cells #[.slice none 0 0] 24))) | skip)
     (first | (replace hrv := (RSl.fair RType.fair).keep hrv (Keep.alloc _ _ (.cells #[.slice none 0 0] 24))) | skip)
     (first | (replace hG9 := hG9.alloc (.cells #[.slice none 0 0] 24)) | skip)
     replace hB := hB.alloc hB.size (.cells #[.slice none 0 0] 24)
     clear hS
     have hS := HSK.out _ hB
     refine hK.out _ _ (fun _ => hS) ?_
     clear hK K
     try simp only [pu]
     generalize World.alloc _ (.cells #[.slice none 0 0] 24) = W10 at *
     refine late_one (i := 3) rfl (by kernel_rfl) (fun K hK => ?_)
     go_simp
     refine (HCV.out _ hB).mono ?_
     rintro e wv ⟨A2, c2, rfl, hrv0, hbv⟩
     have hrv := cut_new (RSl.fair RType.fair) hrv0
     have hsv := hbv.size
     (first | (replace hrb := (RSl.fair RType.fair).below hrb hbv) | skip)
     (first | (replace hG9 := hG9.below hbv hG9.lt) | skip)
     (first | (replace hG10 := hG10.below hbv hG10.lt) | skip)
     replace hB := below_via hB hbv hB.size
     clear hS hrv0 hbv
     have hS := HSK.out _ hB
     refine hK.out _ _ (fun _ => hS) ?_
     clear hK K
     try simp only [pu]
     have hs9 := Hs9.out
     have hs10 := Hs10.out
     have hsW := HsW.out
     have hne : _ ≠ _ := ne_boxes hG9 hG10 (by go_light; omega)
     clear hs9 hs10 hsW
     have r9 := hG9.cell 0
     have fr9 := hG9.frozen 0
     have lt9 := hG9.lt
     simp only [List.getElem?_cons_zero] at r9
     refine late_one (i := 6) rfl (by kernel_rfl) (fun K hK => ?_)
     go_simp
     have z10 := far_two hG9 hG10 hne (.slice A1 bw.length c1)
     have r10 := z10.cell 0
     have fr10 := z10.frozen 0
     have lt10 := z10.lt
     simp only [List.getElem?_cons_zero] at r10
     clear r9 fr9 lt9
     refine hK.out _ _ (fun h => absurd h (by decide)) ?_
     clear hK K
     try simp only [pu]
     refine late_one (i := 7) rfl (by kernel_rfl) (fun K hK => ?_)
     go_simp
     clear r10 fr10 lt10 z10
     refine hK.out _ _ (fun h => absurd h (by decide)) ?_
     clear hK K
     try simp only [pu]
     refine late_done (by kernel_rfl) ?_ _
     go_wp2_with fail
     have hs9 := Hs9.out
     have hs10 := Hs10.out
     have hsW := HsW.out
     go_meet
     case rel => exact ⟨_, _, A1, c1, A2, c2, rfl, rfl, fin_two hG9 hG10 hne hrb hrv hB (by go_light; omega) (by go_light; omega) (by go_light; omega) (by go_light; omega) (by go_light; omega) (by go_light; omega) (by go_light; omega) (by go_light; omega)⟩
   ·go_simp
    have hG10 := newBook hB
    have Hs10 := Lib.hid (newBook_size hB)
    (first | (replace hrb := (RSl.fair RType.fair).keep hrb (Keep.alloc _ _ (.cells #[.slice none 0 0] 24))) | skip)
    (first | (replace hrv := (RSl.fair RType.fair).keep hrv (Keep.alloc _ _ (.cells #[.slice none 0 0] 24))) | skip)
    (first | (replace hG9 := hG9.alloc (.cells #[.slice none 0 0] 24)) | skip)
    replace hB := hB.alloc hB.size (.cells #[.slice none 0 0] 24)
    clear hS
    have hS := HSK.out _ hB
    refine hK.out _ _ (fun _ => hS) ?_
    clear hK K
    try simp only [pu]
    generalize World.alloc _ (.cells #[.slice none 0 0] 24) = W10 at *
    refine late_one (i := 1) rfl (by kernel_rfl) (fun K hK => ?_)
    go_simp
    refine (HCB.out _ hB).mono ?_
    rintro e wb ⟨A1, c1, rfl, hrb0, hbb⟩
    have hrb := cut_new (RSl.fair RType.fair) hrb0
    have hsb := hbb.size
    (first | (replace hG9 := hG9.below hbb hG9.lt) | skip)
    (first | (replace hG10 := hG10.below hbb hG10.lt) | skip)
    replace hB := below_via hB hbb hB.size
    clear hS hrb0 hbb
    have hS := HSK.out _ hB
    refine hK.out _ _ (fun _ => hS) ?_
    clear hK K
    try simp only [pu]
    refine late_one (i := 3) rfl (by kernel_rfl) (fun K hK => ?_)
    go_simp
    refine (HCV.out _ hB).mono ?_
    rintro e wv ⟨A2, c2, rfl, hrv0, hbv⟩
    have hrv := cut_new (RSl.fair RType.fair) hrv0
    have hsv := hbv.size
    (first | (replace hrb := (RSl.fair RType.fair).below hrb hbv) | skip)
    (first | (replace hG9 := hG9.below hbv hG9.lt) | skip)
    (first | (replace hG10 := hG10.below hbv hG10.lt) | skip)
    replace hB := below_via hB hbv hB.size
    clear hS hrv0 hbv
    have hS := HSK.out _ hB
    refine hK.out _ _ (fun _ => hS) ?_
    clear hK K
    try simp only [pu]
    have hs9 := Hs9.out
    have hs10 := Hs10.out
    have hsW := HsW.out
    have hne : _ ≠ _ := ne_boxes hG9 hG10 (by go_light; omega)
    clear hs9 hs10 hsW
    have r9 := hG9.cell 0
    have fr9 := hG9.frozen 0
    have lt9 := hG9.lt
    simp only [List.getElem?_cons_zero] at r9
    refine late_one (i := 6) rfl (by kernel_rfl) (fun K hK => ?_)
    go_simp
    have z10 := far_two hG9 hG10 hne (.slice A1 bw.length c1)
    have r10 := z10.cell 0
    have fr10 := z10.frozen 0
    have lt10 := z10.lt
    simp only [List.getElem?_cons_zero] at r10
    clear r9 fr9 lt9
    refine hK.out _ _ (fun h => absurd h (by decide)) ?_
    clear hK K
    try simp only [pu]
    refine late_one (i := 7) rfl (by kernel_rfl) (fun K hK => ?_)
    go_simp
    clear r10 fr10 lt10 z10
    refine hK.out _ _ (fun h => absurd h (by decide)) ?_
    clear hK K
    try simp only [pu]
    refine late_done (by kernel_rfl) ?_ _
    go_wp2_with fail
    have hs9 := Hs9.out
    have hs10 := Hs10.out
    have hsW := HsW.out
    go_meet
    case rel => exact ⟨_, _, A1, c1, A2, c2, rfl, rfl, fin_two hG9 hG10 hne hrb hrv hB (by go_light; omega) (by go_light; omega) (by go_light; omega) (by go_light; omega) (by go_light; omega) (by go_light; omega) (by go_light; omega) (by go_light; omega)⟩
  ·go_simp
   have hG10 := newBook hB
   have Hs10 := Lib.hid (newBook_size hB)
   (first | (replace hrb := (RSl.fair RType.fair).keep hrb (Keep.alloc _ _ (.cells #[.slice none 0 0] 24))) | skip)
   (first | (replace hrv := (RSl.fair RType.fair).keep hrv (Keep.alloc _ _ (.cells #[.slice none 0 0] 24))) | skip)
   (first | (replace hG9 := hG9.alloc (.cells #[.slice none 0 0] 24)) | skip)
   replace hB := hB.alloc hB.size (.cells #[.slice none 0 0] 24)
   clear hS
   have hS := HSK.out _ hB
   refine hK.out _ _ (fun _ => hS) ?_
   clear hK K
   try simp only [pu]
   generalize World.alloc _ (.cells #[.slice none 0 0] 24) = W10 at *
   refine late_two (i := 1) (j := 4) rfl rfl (by kernel_rfl) (fun K hK => ?_) (fun K hK => ?_)
   ·go_simp
    refine (HCB.out _ hB).mono ?_
    rintro e wb ⟨A1, c1, rfl, hrb0, hbb⟩
    have hrb := cut_new (RSl.fair RType.fair) hrb0
    have hsb := hbb.size
    (first | (replace hG9 := hG9.below hbb hG9.lt) | skip)
    (first | (replace hG10 := hG10.below hbb hG10.lt) | skip)
    replace hB := below_via hB hbb hB.size
    clear hS hrb0 hbb
    have hS := HSK.out _ hB
    refine hK.out _ _ (fun _ => hS) ?_
    clear hK K
    try simp only [pu]
    refine late_two (i := 3) (j := 4) rfl rfl (by kernel_rfl) (fun K hK => ?_) (fun K hK => ?_)
    ·go_simp
     refine (HCV.out _ hB).mono ?_
     rintro e wv ⟨A2, c2, rfl, hrv0, hbv⟩
     have hrv := cut_new (RSl.fair RType.fair) hrv0
     have hsv := hbv.size
     (first | (replace hrb := (RSl.fair RType.fair).below hrb hbv) | skip)
     (first | (replace hG9 := hG9.below hbv hG9.lt) | skip)
     (first | (replace hG10 := hG10.below hbv hG10.lt) | skip)
     replace hB := below_via hB hbv hB.size
     clear hS hrv0 hbv
     have hS := HSK.out _ hB
     refine hK.out _ _ (fun _ => hS) ?_
     clear hK K
     try simp only [pu]
     refine late_one (i := 4) rfl (by kernel_rfl) (fun K hK => ?_)
     go_simp
     have hG9 := newBook hB
     have Hs9 := Lib.hid (newBook_size hB)
     (first | (replace hrb := (RSl.fair RType.fair).keep hrb (Keep.alloc _ _ (.cells #[.slice none 0 0] 24))) | skip)
     (first | (replace hrv := (RSl.fair RType.fair).keep hrv (Keep.alloc _ _ (.cells #[.slice none 0 0] 24))) | skip)
     (first | (replace hG10 := hG10.alloc (.cells #[.slice none 0 0] 24)) | skip)
     replace hB := hB.alloc hB.size (.cells #[.slice none 0 0] 24)
     clear hS
     have hS := HSK.out _ hB
     refine hK.out _ _ (fun _ => hS) ?_
     clear hK K
     try simp only [pu]
     generalize World.alloc _ (.cells #[.slice none 0 0] 24) = W9 at *
     have hs9 := Hs9.out
     have hs10 := Hs10.out
     have hsW := HsW.out
     have hne : _ ≠ _ := ne_boxes hG9 hG10 (by go_light; omega)
     clear hs9 hs10 hsW
     have r9 := hG9.cell 0
     have fr9 := hG9.frozen 0
     have lt9 := hG9.lt
     simp only [List.getElem?_cons_zero] at r9
     refine late_one (i := 6) rfl (by kernel_rfl) (fun K hK => ?_)
     go_simp
     have z10 := far_two hG9 hG10 hne (.slice A1 bw.length c1)
     have r10 := z10.cell 0
     have fr10 := z10.frozen 0
     have lt10 := z10.lt
     simp only [List.getElem?_cons_zero] at r10
     clear r9 fr9 lt9
     refine hK.out _ _ (fun h => absurd h (by decide)) ?_
     clear hK K
     try simp only [pu]
     refine late_one (i := 7) rfl (by kernel_rfl) (fun K hK => ?_)
     go_simp
     clear r10 fr10 lt10 z10
     refine hK.out _ _ (fun h => absurd h (by decide)) ?_
     clear hK K
     try simp only [pu]
     refine late_done (by kernel_rfl) ?_ _
     go_wp2_with fail
     have hs9 := Hs9.out
     have hs10 := Hs10.out
     have hsW := HsW.out
     go_meet
     case rel => exact ⟨_, _, A1, c1, A2, c2, rfl, rfl, fin_two hG9 hG10 hne hrb hrv hB (by go_light; omega) (by go_light; omega) (by go_light; omega) (by go_light; omega) (by go_light; omega) (by go_light; omega) (by go_light; omega) (by go_light; omega)⟩
    ·go_simp
     have hG9 := newBook hB
     have Hs9 := Lib.hid (newBook_size hB)
     (first | (replace hrb := (RSl.fair RType.fair).keep hrb (Keep.alloc _ _ (.cells #[.slice none 0 0] 24))) | skip)
     (first | (replace hrv := (RSl.fair RType.fair).keep hrv (Keep.alloc _ _ (.cells #[.slice none 0 0] 24))) | skip)
     (first | (replace hG10 := hG10.alloc (.cells #[.slice none 0 0] 24)) | skip)
     replace hB := hB.alloc hB.size (.cells #[.slice none 0 0] 24)
     clear hS
     have hS := HSK.out _ hB
     refine hK.out _ _ (fun _ => hS) ?_
     clear hK K
     try simp only [pu]
     generalize World.alloc _ (.cells #[.slice none 0 0] 24) = W9 at *
     refine late_one (i := 3) rfl (by kernel_rfl) (fun K hK => ?_)
     go_simp
     refine (HCV.out _ hB).mono ?_
     rintro e wv ⟨A2, c2, rfl, hrv0, hbv⟩
     have hrv := cut_new (RSl.fair RType.fair) hrv0
     have hsv := hbv.size
     (first | (replace hrb := (RSl.fair RType.fair).below hrb hbv) | skip)
     (first | (replace hG9 := hG9.below hbv hG9.lt) | skip)
     (first | (replace hG10 := hG10.below hbv hG10.lt) | skip)
     replace hB := below_via hB hbv hB.size
     clear hS hrv0 hbv
     have hS := HSK.out _ hB
     refine hK.out _ _ (fun _ => hS) ?_
     clear hK K
     try simp only [pu]
     have hs9 := Hs9.out
     have hs10 := Hs10.out
     have hsW := HsW.out
     have hne : _ ≠ _ := ne_boxes hG9 hG10 (by go_light; omega)
     clear hs9 hs10 hsW
     have r9 := hG9.cell 0
     have fr9 := hG9.frozen 0
     have lt9 := hG9.lt
     simp only [List.getElem?_cons_zero] at r9
     refine late_one (i := 6) rfl (by kernel_rfl) (fun K hK => ?_)
     go_simp
     have z10 := far_two hG9 hG10 hne (.slice A1 bw.length c1)
     have r10 := z10.cell 0
     have fr10 := z10.frozen 0
     have lt10 := z10.lt
     simp only [List.getElem?_cons_zero] at r10
     clear r9 fr9 lt9
     refine hK.out _ _ (fun h => absurd h (by decide)) ?_
     clear hK K
     try simp only [pu]
     refine late_one (i := 7) rfl (by kernel_rfl) (fun K hK => ?_)
     go_simp
     clear r10 fr10 lt10 z10
     refine hK.out _ _ (fun h => absurd h (by decide)) ?_
     clear hK K
     try simp only [pu]
     refine late_done (by kernel_rfl) ?_ _
     go_wp2_with fail
     have hs9 := Hs9.out
     have hs10 := Hs10.out
     have hsW := HsW.out
     go_meet
     case rel => exact ⟨_, _, A1, c1, A2, c2, rfl, rfl, fin_two hG9 hG10 hne hrb hrv hB (by go_light; omega) (by go_light; omega) (by go_light; omega) (by go_light; omega) (by go_light; omega) (by go_light; omega) (by go_light; omega) (by go_light; omega)⟩
   ·go_simp
    have hG9 := newBook hB
    have Hs9 := Lib.hid (newBook_size hB)
    (first | (replace hrb := (RSl.fair RType.fair).keep hrb (Keep.alloc _ _ (.cells #[.slice none 0 0] 24))) | skip)
    (first | (replace hrv := (RSl.fair RType.fair).keep hrv (Keep.alloc _ _ (.cells #[.slice none 0 0] 24))) | skip)
    (first | (replace hG10 := hG10.alloc (.cells #[.slice none 0 0] 24)) | skip)
    replace hB := hB.alloc hB.size (.cells #[.slice none 0 0] 24)
    clear hS
    have hS := HSK.out _ hB
    refine hK.out _ _ (fun _ => hS) ?_
    clear hK K
    try simp only [pu]
    generalize World.alloc _ (.cells #[.slice none 0 0] 24) = W9 at *
    refine late_one (i := 1) rfl (by kernel_rfl) (fun K hK => ?_)
    go_simp
    refine (HCB.out _ hB).mono ?_
    rintro e wb ⟨A1, c1, rfl, hrb0, hbb⟩
    have hrb := cut_new (RSl.fair RType.fair) hrb0
    have hsb := hbb.size
    (first | (replace hG9 := hG9.below hbb hG9.lt) | skip)
    (first | (replace hG10 := hG10.below hbb hG10.lt) | skip)
    replace hB := below_via hB hbb hB.size
    clear hS hrb0 hbb
    have hS := HSK.out _ hB
    refine hK.out _ _ (fun _ => hS) ?_
    clear hK K
    try simp only [pu]
    refine late_one (i := 3) rfl (by kernel_rfl) (fun K hK => ?_)
    go_simp
    refine (HCV.out _ hB).mono ?_
    rintro e wv ⟨A2, c2, rfl, hrv0, hbv⟩
    have hrv := cut_new (RSl.fair RType.fair) hrv0
    have hsv := hbv.size
    (first | (replace hrb := (RSl.fair RType.fair).below hrb hbv) | skip)
    (first | (replace hG9 := hG9.below hbv hG9.lt) | skip)
    (first | (replace hG10 := hG10.below hbv hG10.lt) | skip)
    replace hB := below_via hB hbv hB.size
    clear hS hrv0 hbv
    have hS := HSK.out _ hB
    refine hK.out _ _ (fun _ => hS) ?_
    clear hK K
    try simp only [pu]
    have hs9 := Hs9.out
    have hs10 := Hs10.out
    have hsW := HsW.out
    have hne : _ ≠ _ := ne_boxes hG9 hG10 (by go_light; omega)
    clear hs9 hs10 hsW
    have r9 := hG9.cell 0
    have fr9 := hG9.frozen 0
    have lt9 := hG9.lt
    simp only [List.getElem?_cons_zero] at r9
    refine late_one (i := 6) rfl (by kernel_rfl) (fun K hK => ?_)
    go_simp
    have z10 := far_two hG9 hG10 hne (.slice A1 bw.length c1)
    have r10 := z10.cell 0
    have fr10 := z10.frozen 0
    have lt10 := z10.lt
    simp only [List.getElem?_cons_zero] at r10
    clear r9 fr9 lt9
    refine hK.out _ _ (fun h => absurd h (by decide)) ?_
    clear hK K
    try simp only [pu]
    refine late_one (i := 7) rfl (by kernel_rfl) (fun K hK => ?_)
    go_simp
    clear r10 fr10 lt10 z10
    refine hK.out _ _ (fun h => absurd h (by decide)) ?_
    clear hK K
    try simp only [pu]
    refine late_done (by kernel_rfl) ?_ _
    go_wp2_with fail
    have hs9 := Hs9.out
    have hs10 := Hs10.out
    have hsW := HsW.out
    go_meet
    case rel => exact ⟨_, _, A1, c1, A2, c2, rfl, rfl, fin_two hG9 hG10 hne hrb hrv hB (by go_light; omega) (by go_light; omega) (by go_light; omega) (by go_light; omega) (by go_light; omega) (by go_light; omega) (by go_light; omega) (by go_light; omega)⟩
 case rest =>
  obtain ⟨g9, g10, A1, c1, A2, c2, rfl, rfl, hG9, hG10, hrb, hrv, hB⟩ := hcut
  clear HSK HCB HCV
  obtain ⟨W1, hW1⟩ : ∃ V, V = wc := ⟨_, rfl⟩
  subst hW1
  have HF : Hid (∀ W', RowKit.Below W1.heap.size W1 W' → (Box W' w.heap.size 24 [.slice AW bw.length cw] ∧ Box W' (w.heap.size + 1) 24 [.slice AR br.length cr] ∧ Box W' g9 24 [.slice A1 bw.length c1] ∧ Box W' g10 24 [.slice A2 br.length c2] ∧ RSl 5 96 RType (fun y => W0.heap.size ≤ y) W' [.slice A1 bw.length c1] bw ∧ RSl 5 96 RType (fun y => W0.heap.size ≤ y) W' [.slice A2 br.length c2] br ∧ RowKit.Below w.heap.size w W')) := fun W' h =>
   ⟨(x1.below hB x1.lt).below h (x1.below hB x1.lt).lt, (x2.below hB x2.lt).below h (x2.below hB x2.lt).lt, hG9.below h hG9.lt, hG10.below h hG10.lt, (RSl.fair RType.fair).below hrb h, (RSl.fair RType.fair).below hrv h, HUP.out W' (below_via hB h hB.size)⟩
  clear hG9 hG10 hrb hrv hB x1 x2 x3 HUP
  have hb0 := Below.here W1
  obtain ⟨q1, q2, q3, q4, q5, q6, q7⟩ := HF.out _ hb0
  have c3 := q3.cell 0
  have l3 := q3.lt
  have c4 := q4.cell 0
  have l4 := q4.lt
  have Hc := Lib.hid (hfl.out _ _ _ _ _ _ q5 q6 q7)
  clear q1 q2 q3 q4 q5 q6 q7 hfl
  go_wp2_with fail
  refine Hc.out.mono ?_
  rintro e w2 ⟨v2, rfl, hv2, hb2⟩
  obtain ⟨AL, cl, rfl, -, -⟩ := hv2.form
  have Hv2 := Lib.hid hv2
  obtain ⟨q1, q2, q3, q4, q5, q6, q7⟩ := HF.out _ hb2
  clear c3 l3 c4 l4 hv2 Hc hb0
  have c3 := q1.cell 0
  have l3 := q1.lt
  have c4 := q2.cell 0
  have l4 := q2.lt
  have Hc := Lib.hid (hfo.out _ q7)
  clear q1 q2 q3 q4 q5 q6 q7 hfo
  dsimp only
  go_wp2_with fail
  refine Hc.out.mono ?_
  rintro e w3 ⟨v3, rfl, hv3, hb3⟩
  obtain ⟨AM, cm, rfl, -, -⟩ := hv3.form
  have hb23 := below_via hb2 hb3 hb2.size
  have Hs := Lib.hid (sameFlaws_any _ _ _ _ pl w3 ((RSl.fair RFlaw.fair).below Hv2.out hb3) hv3)
  clear c3 l3 c4 l4 hv3 Hc Hv2 hb3 hb2
  dsimp only
  go_wp2_with fail
  refine Hs.out.mono ?_
  rintro e w4 ⟨rfl, hb4⟩
  have hb5 := below_via hb23 hb4 hb23.size
  obtain ⟨q1, q2, q3, q4, q5, q6, q7⟩ := HF.out _ hb5
  have c3 := q3.cell 0
  have l3 := q3.lt
  have c4 := q1.cell 0
  have l4 := q1.lt
  have Hs := Lib.hid (sameBook_anyR _ S _ _ bw _ q5 ((RSl.fair RType.fair).below H1.out q7))
  clear q1 q2 q3 q4 q5 q6 q7 hb4 hb23
  go_wp2_with fail
  refine Hs.out.mono ?_
  rintro e w6 ⟨rfl, hb6⟩
  have hb7 := below_via hb5 hb6 hb5.size
  obtain ⟨q1, q2, q3, q4, q5, q6, q7⟩ := HF.out _ hb7
  clear c3 l3 c4 l4 Hs
  have c3 := q4.cell 0
  have l3 := q4.lt
  have c4 := q2.cell 0
  have l4 := q2.lt
  have Hs := Lib.hid (sameBook_anyR _ S _ _ br _ q6 ((RSl.fair RType.fair).below H2.out q7))
  clear q1 q2 q3 q4 q5 q6 q7 hb6 hb5
  go_wp2_with fail
  refine Hs.out.mono ?_
  rintro e w8 ⟨rfl, hb8⟩
  have hb9 := below_via hb7 hb8 hb7.size
  have q7 := (HF.out _ hb9).2.2.2.2.2.2
  have Hs := Lib.hid (finds_any _ (HW.out.below q7))
  clear c3 l3 c4 l4 hb8 hb7
  go_wp2_with fail
  refine Hs.out.mono ?_
  rintro e w10 ⟨rfl, hb10⟩
  go_wp2_with fail
  go_ret
  exact ⟨rfl, below_via q7 hb10 q7.size⟩
end Go.Proofs.YtfidfakcbjoilaaGreatDoor
