/- The law MergeBooks' own walk. (Its first region is printed by mklaw3.py.) -/
import Derived.Test.YtihdnjnhhhafkaaGreatDoorRefMerge
import Derived.Test.YtihdnjnhhhafkaaGreatDoorMergeSameG
import Derived.Test.YtihdnjnhhhafkaaGreatDoorRefSameG
import Derived.Test.YtihdnjnhhhafkaaGreatDoorLawMerges
import Derived.Test.YtihdnjnhhhafkaaGreatDoorRefCopy
import Derived.Test.YtihdnjnhhhafkaaGreatDoorRefSameF
set_option linter.all false
set_option maxRecDepth 100000
set_option maxHeartbeats 100000000
namespace Go.Proofs.YtihdnjnhhhafkaaGreatDoor
open Go Go.RowKit
section
variable {P : Program} {md : Region.Mode} {ops : Array Oper} {Q : Exit → Act → World → Prop} {lb : Nat → Bool} {S : World → Prop}
theorem lateP_some {fuel : Nat} {listed : Array Bool} {a : Act} {w : World} (rs : List Nat) (hr : Region.ready md ops listed = rs) (h0 : rs ≠ [])
  (h : ∀ i ∈ rs, ∃ o, ops[i]? = some o ∧ ∀ K : Act → World → Prop, Shut (∀ a' w', (lb i = true → S w → S w') → anyP P md ops Q lb S fuel (listed.setIfInBounds i true) a' w' → K a' w') → if Region.wanted o (yielded ops a.tmps) = true then Oper.wp P o a w K Q else K (a.put o.dst undef) w) :
  anyP P md ops Q lb S (fuel + 1) listed a w := by
 refine ⟨fun h1 => absurd (hr.symm.trans h1) h0, ?_⟩
 rw [hr]
 intro i hi
 obtain ⟨o, ho, hh⟩ := h i hi
 exact wpOp_step ho (fun K' hK => hh K' (fun a' w' hS hW => hK a' w' ⟨hS, hW⟩))
def Step (P : Program) (md : Region.Mode) (ops : Array Oper) (Q : Exit → Act → World → Prop) (lb : Nat → Bool) (S : World → Prop) (fuel : Nat) (listed : Array Bool) (a : Act) (w : World) (i : Nat) (o : Oper) : Prop :=
 ∀ K : Act → World → Prop, Shut (∀ a' w', (lb i = true → S w → S w') → anyP P md ops Q lb S fuel (listed.setIfInBounds i true) a' w' → K a' w') → if Region.wanted o (yielded ops a.tmps) = true then Oper.wp P o a w K Q else K (a.put o.dst undef) w
theorem lateP_three {i j k : Nat} {oi oj ok : Oper} {fuel : Nat} {listed : Array Bool} {a : Act} {w : World} (hi : ops[i]? = some oi) (hj : ops[j]? = some oj) (hk : ops[k]? = some ok) (hr : Region.ready md ops listed = [i, j, k])
  (h1 : Step P md ops Q lb S fuel listed a w i oi) (h2 : Step P md ops Q lb S fuel listed a w j oj) (h3 : Step P md ops Q lb S fuel listed a w k ok) : anyP P md ops Q lb S (fuel + 1) listed a w := by
 refine lateP_some _ hr (by simp) (fun q hq => ?_)
 simp only [List.mem_cons, List.not_mem_nil, or_false] at hq
 rcases hq with rfl | rfl | rfl
 ·exact ⟨_, hi, h1⟩
 ·exact ⟨_, hj, h2⟩
 ·exact ⟨_, hk, h3⟩
theorem lateP_four {i j k l : Nat} {oi oj ok ol : Oper} {fuel : Nat} {listed : Array Bool} {a : Act} {w : World} (hi : ops[i]? = some oi) (hj : ops[j]? = some oj) (hk : ops[k]? = some ok) (hl : ops[l]? = some ol) (hr : Region.ready md ops listed = [i, j, k, l])
  (h1 : Step P md ops Q lb S fuel listed a w i oi) (h2 : Step P md ops Q lb S fuel listed a w j oj) (h3 : Step P md ops Q lb S fuel listed a w k ok) (h4 : Step P md ops Q lb S fuel listed a w l ol) : anyP P md ops Q lb S (fuel + 1) listed a w := by
 refine lateP_some _ hr (by simp) (fun q hq => ?_)
 simp only [List.mem_cons, List.not_mem_nil, or_false] at hq
 rcases hq with rfl | rfl | rfl | rfl
 ·exact ⟨_, hi, h1⟩
 ·exact ⟨_, hj, h2⟩
 ·exact ⟨_, hk, h3⟩
 ·exact ⟨_, hl, h4⟩
theorem anyP_at {fuel : Nat} {L1 L2 : Array Bool} {a : Act} {w : World} (h : L1 = L2) (g : anyP P md ops Q lb S fuel L2 a w) : anyP P md ops Q lb S fuel L1 a w := h ▸ g
theorem with_ops {fuel : Nat} {L : Array Bool} {a : Act} {w : World} (h : ∀ (o : Array Oper) (Qx : Exit → Act → World → Prop), o = ops → Qx = Q → anyP P md o Qx lb S fuel L a w) : anyP P md ops Q lb S fuel L a w := h _ _ rfl rfl
end
def JJ (W0 : World) (gs : List Nat) (W : World) : Prop := Below W0.heap.size W0 W ∧ gs.Nodup ∧ ∀ g ∈ gs, W0.heap.size ≤ g ∧ Box W g 24 [.slice none 0 0]
def CPY (W0 : World) (gs : List Nat) (W : World) (v : Value) (b : BookD) : Prop := RSl 5 96 RType (fun y => W0.heap.size ≤ y ∧ y ∉ gs) W [v] b
theorem JJ.call {W0 W W' : World} {gs : List Nat} (h : JJ W0 gs W) (hb : Below W.heap.size W W') : JJ W0 gs W' :=
 ⟨below_via h.1 hb h.1.size, h.2.1, fun g hg => ⟨(h.2.2 g hg).1, (h.2.2 g hg).2.below hb (h.2.2 g hg).2.lt⟩⟩
theorem CPY.call {W0 W W' : World} {gs : List Nat} {v : Value} {b : BookD} (h : CPY W0 gs W v b) (hb : Below W.heap.size W W') : CPY W0 gs W' v b := (RSl.fair RType.fair).below h hb
theorem CPY.made {W0 W W' : World} {gs : List Nat} {v : Value} {b : BookD} (h : JJ W0 gs W) (hr : RSl 5 96 RType (New W) W' [v] b) (_ : Below W.heap.size W W') : CPY W0 gs W' v b :=
 (RSl.fair RType.fair).mono hr (fun y hy _ => by
  have hy' : W.heap.size ≤ y := hy
  exact ⟨Nat.le_trans h.1.size hy', fun hm => by have := (h.2.2 y hm).2.lt; omega⟩)
theorem JJ.add {W0 W : World} {gs gs' : List Nat} (h : JJ W0 gs W) (hp : gs'.Perm (W.heap.size :: gs)) : JJ W0 gs' (W.alloc (.cells #[.slice none 0 0] 24)) := by
 refine ⟨h.1.alloc h.1.size _, hp.nodup_iff.2 (List.nodup_cons.2 ⟨fun hm => by have := (h.2.2 _ hm).2.lt; omega, h.2.1⟩), fun g hg => ?_⟩
 rcases List.mem_cons.1 (hp.mem_iff.1 hg) with rfl | hg
 ·exact ⟨h.1.size, Box.new W _ [.slice none 0 0]⟩
 ·exact ⟨(h.2.2 g hg).1, (h.2.2 g hg).2.alloc _⟩
theorem CPY.add {W0 W : World} {gs gs' : List Nat} {v : Value} {b : BookD} (h : CPY W0 gs W v b) (hp : gs'.Perm (W.heap.size :: gs)) : CPY W0 gs' (W.alloc (.cells #[.slice none 0 0] 24)) v b :=
 (RSl.fair RType.fair).keep ((RSl.fair RType.fair).mono h (fun y hy hl => ⟨hy.1, fun hm => by
  rcases List.mem_cons.1 (hp.mem_iff.1 hm) with e | e
  ·omega
  ·exact hy.2 e⟩)) (Keep.alloc _ W _)
theorem CPY.store {W0 W : World} {gs : List Nat} {v : Value} {b : BookD} {g : Nat} (h : CPY W0 gs W v b) (hg : g ∈ gs) (u : Value) : CPY W0 gs (W.setCell ⟨g, 0, none⟩ u) v b :=
 (RSl.fair RType.fair).keep h (Keep.setCell W (a := ⟨g, 0, none⟩) u (fun e => e.2 hg))
theorem lawMergeBooks_any (S : Nat → Prop) (va vb vc : Value) (was a b : BookD) (w : World) (h1 : RSl 5 96 RType S w [va] was) (h2 : RSl 5 96 RType S w [vb] a) (h3 : RSl 5 96 RType S w [vc] b) (hW : Words w) (hM : MaxL w) (o1 : BookOk was) (o2 : BookOk a) (o3 : BookOk b) (s1 : BookSmall was) (s2 : BookSmall a) (s3 : BookSmall b) :
  Calls Tryz.prog 3 #[.agg #[va], .agg #[vb], .agg #[vc]] w (Ret w (.bool true)) := by
 obtain ⟨A1, k1, rfl, -, -⟩ := h1.form
 obtain ⟨A2, k2, rfl, -, -⟩ := h2.form
 obtain ⟨A3, k3, rfl, -, -⟩ := h3.form
 obtain ⟨x1, x2, x3, x4⟩ := boxes3 w [.slice A1 was.length k1] [.slice A2 a.length k2] [.slice A3 b.length k3] 24 24 24
 have H1 := Lib.hid h1
 have H2 := Lib.hid h2
 have H3 := Lib.hid h3
 have HW := Lib.hid hW
 have HM := Lib.hid hM
 have HO := Lib.hid (And.intro o1 (And.intro o2 o3))
 have HSm := Lib.hid (And.intro s1 (And.intro s2 s3))
 clear h1 h2 h3 hW hM o1 o2 o3 s1 s2 s3
 go_enter Tryz.func3, Tryz.ntmps3
 go_upto_region 1 with fail
 generalize (World.alloc _ (Obj.cells _ 24)) = W0 at x1 x2 x3 x4 ⊢
 have HUP := Lib.hid (fun W' (h : Below W0.heap.size W0 W') => below_via x4 h x4.size)
 have HS := Lib.hid (fun (W' : World) (h : Below W0.heap.size W0 W') => (show (fun W' => World.cell? W' ⟨w.heap.size, 0, none⟩ = some (.slice A1 was.length k1) ∧ World.cell? W' ⟨w.heap.size + 1, 0, none⟩ = some (.slice A2 a.length k2) ∧ World.cell? W' ⟨w.heap.size + 1 + 1, 0, none⟩ = some (.slice A3 b.length k3)) W' from ⟨(x1.below h x1.lt).cell 0, (x2.below h x2.lt).cell 0, (x3.below h x3.lt).cell 0⟩))
 have HC1 := Lib.hid (fun (W' : World) (h : Below W0.heap.size W0 W') => copyBook_any S _ was W' ((RSl.fair RType.fair).below H1.out (HUP.out W' h)))
 have HC2 := Lib.hid (fun (W' : World) (h : Below W0.heap.size W0 W') => copyBook_any S _ a W' ((RSl.fair RType.fair).below H2.out (HUP.out W' h)))
 have HC3 := Lib.hid (fun (W' : World) (h : Below W0.heap.size W0 W') => copyBook_any S _ b W' ((RSl.fair RType.fair).below H3.out (HUP.out W' h)))
 go_cut [7, 8, 9] from 16 to 21 (fun p q r W' => ∃ g7 g8 g9 B1 c1 B2 c2 B3 c3, p = .pointer (some ⟨g7, 0, none⟩) ∧ q = .pointer (some ⟨g8, 0, none⟩) ∧ r = .pointer (some ⟨g9, 0, none⟩) ∧ Box W' g7 24 [.slice B1 was.length c1] ∧ Box W' g8 24 [.slice B2 a.length c2] ∧ Box W' g9 24 [.slice B3 b.length c3] ∧
   RSl 5 96 RType (fun y => W0.heap.size ≤ y) W' [.slice B1 was.length c1] was ∧ RSl 5 96 RType (fun y => W0.heap.size ≤ y) W' [.slice B2 a.length c2] a ∧ RSl 5 96 RType (fun y => W0.heap.size ≤ y) W' [.slice B3 b.length c3] b ∧ Below W0.heap.size W0 W')
 case first =>
  have hB := below_drew (Below.here W0)
  have hS := HS.out _ hB
  refine lateP_start (fun W' => World.cell? W' ⟨w.heap.size, 0, none⟩ = some (.slice A1 was.length k1) ∧ World.cell? W' ⟨w.heap.size + 1, 0, none⟩ = some (.slice A2 a.length k2) ∧ World.cell? W' ⟨w.heap.size + 1 + 1, 0, none⟩ = some (.slice A3 b.length k3)) (fun _ => true) (by kernel_rfl) ?_
  generalize W0.drew = Wb at hB hS ⊢
  refine tkP 0 hS ?_
  try simp only [pu]
  refine tkP 2 hS ?_
  try simp only [pu]
  refine tkP 4 hS ?_
  try simp only [pu]
  obtain ⟨SW, hSW⟩ : ∃ s : World → Prop, s = (fun W' => World.cell? W' ⟨w.heap.size, 0, none⟩ = some (.slice A1 was.length k1) ∧ World.cell? W' ⟨w.heap.size + 1, 0, none⟩ = some (.slice A2 a.length k2) ∧ World.cell? W' ⟨w.heap.size + 1 + 1, 0, none⟩ = some (.slice A3 b.length k3)) := ⟨_, rfl⟩
  rw [← hSW]
  rw [← hSW] at HS
  refine with_ops (fun o Qx ho hQ => ?_)
  have hJ0 : JJ W0 [] Wb := ⟨hB, List.nodup_nil, fun _ h => by cases h⟩
  clear hS hB hSW x1 x2 x3 x4
  have GEND : ∀ (W : World) (g7 g8 g9 : Nat) (B1 : Option Addr) (c1 : Nat) (B2 : Option Addr) (c2 : Nat) (B3 : Option Addr) (c3 : Nat), JJ W0 [g7, g8, g9] W → CPY W0 [g7, g8, g9] W (.slice B1 was.length c1) was → CPY W0 [g7, g8, g9] W (.slice B2 a.length c2) a → CPY W0 [g7, g8, g9] W (.slice B3 b.length c3) b → anyP Tryz.prog .any o Qx (fun _ => true) SW 3 #[true, true, true, true, true, true, true, true, true, false, false, false] ⟨#[.agg #[.slice A1 was.length k1], .agg #[.slice A2 a.length k2], .agg #[.slice A3 b.length k3], .pointer (some ⟨w.heap.size, 0, none⟩), .pointer (some ⟨w.heap.size + 1, 0, none⟩), .pointer (some ⟨w.heap.size + 1 + 1, 0, none⟩), .bool false, .pointer (some ⟨g7, 0, none⟩), .pointer (some ⟨g8, 0, none⟩), .pointer (some ⟨g9, 0, none⟩), undef, undef, undef, undef, undef, undef, .agg #[.slice A1 was.length k1], .agg #[.slice B1 was.length c1], .agg #[.slice A2 a.length k2], .agg #[.slice B2 a.length c2], .agg #[.slice A3 b.length k3], .agg #[.slice B3 b.length c3], undef, undef, undef, undef, undef, undef, undef, undef, undef, undef, undef, undef, undef, undef, undef, undef, undef, undef, undef, undef, undef, undef, undef, undef, undef, undef, undef, undef, undef, undef, undef, undef, undef, undef, undef, undef, undef, undef, undef, undef, undef, undef, undef, undef, undef, undef, undef, undef, undef, undef, undef, undef, undef, undef, undef, undef], []⟩ W := by
   intro W g7 g8 g9 B1 c1 B2 c2 B3 c3 hJ h1 h2 h3
   rw [ho, hQ]
   obtain ⟨hB, hnd, hbx⟩ := hJ
   obtain ⟨hg7, b7⟩ := hbx g7 (by simp)
   obtain ⟨hg8, b8⟩ := hbx g8 (by simp)
   obtain ⟨hg9, b9⟩ := hbx g9 (by simp)
   simp only [List.nodup_cons, List.mem_cons, List.not_mem_nil, or_false, not_or, not_false_eq_true, List.nodup_nil, and_true] at hnd
   obtain ⟨⟨n78, n79⟩, n89⟩ := hnd
   clear hbx
   have r7 := b7.cell 0
   have f7 := b7.frozen 0
   have l7 := b7.lt
   simp only [List.getElem?_cons_zero] at r7
   refine lateP_one (i := 9) rfl (by kernel_rfl) (fun K hK => ?_)
   go_simp
   clear r7 f7 l7
   replace b7 := b7.set_ 0 (.slice B1 was.length c1)
   replace b8 := b8.far (p := ⟨g7, 0, none⟩) (fun e => n78 e.symm) (.slice B1 was.length c1)
   replace b9 := b9.far (p := ⟨g7, 0, none⟩) (fun e => n79 e.symm) (.slice B1 was.length c1)
   replace hB := hB.setCell (p := ⟨g7, 0, none⟩) hg7 (.slice B1 was.length c1)
   replace h1 := h1.store (g := g7) (by simp) (.slice B1 was.length c1)
   replace h2 := h2.store (g := g7) (by simp) (.slice B1 was.length c1)
   replace h3 := h3.store (g := g7) (by simp) (.slice B1 was.length c1)
   refine hK.out _ _ (fun _ _ => HS.out _ hB) ?_
   clear hK K
   try simp only [pu]
   simp only [List.set_cons_zero] at b7
   generalize World.setCell W ⟨g7, 0, none⟩ (.slice B1 was.length c1) = W7 at b7 b8 b9 hB h1 h2 h3 ⊢
   have r8 := b8.cell 0
   have f8 := b8.frozen 0
   have l8 := b8.lt
   simp only [List.getElem?_cons_zero] at r8
   refine lateP_one (i := 10) rfl (by kernel_rfl) (fun K hK => ?_)
   go_simp
   clear r8 f8 l8
   replace b7 := b7.far (p := ⟨g8, 0, none⟩) (n78) (.slice B2 a.length c2)
   replace b8 := b8.set_ 0 (.slice B2 a.length c2)
   replace b9 := b9.far (p := ⟨g8, 0, none⟩) (fun e => n89 e.symm) (.slice B2 a.length c2)
   replace hB := hB.setCell (p := ⟨g8, 0, none⟩) hg8 (.slice B2 a.length c2)
   replace h1 := h1.store (g := g8) (by simp) (.slice B2 a.length c2)
   replace h2 := h2.store (g := g8) (by simp) (.slice B2 a.length c2)
   replace h3 := h3.store (g := g8) (by simp) (.slice B2 a.length c2)
   refine hK.out _ _ (fun _ _ => HS.out _ hB) ?_
   clear hK K
   try simp only [pu]
   simp only [List.set_cons_zero] at b8
   generalize World.setCell W7 ⟨g8, 0, none⟩ (.slice B2 a.length c2) = W8 at b7 b8 b9 hB h1 h2 h3 ⊢
   have r9 := b9.cell 0
   have f9 := b9.frozen 0
   have l9 := b9.lt
   simp only [List.getElem?_cons_zero] at r9
   refine lateP_one (i := 11) rfl (by kernel_rfl) (fun K hK => ?_)
   go_simp
   clear r9 f9 l9
   replace b7 := b7.far (p := ⟨g9, 0, none⟩) (n79) (.slice B3 b.length c3)
   replace b8 := b8.far (p := ⟨g9, 0, none⟩) (n89) (.slice B3 b.length c3)
   replace b9 := b9.set_ 0 (.slice B3 b.length c3)
   replace hB := hB.setCell (p := ⟨g9, 0, none⟩) hg9 (.slice B3 b.length c3)
   replace h1 := h1.store (g := g9) (by simp) (.slice B3 b.length c3)
   replace h2 := h2.store (g := g9) (by simp) (.slice B3 b.length c3)
   replace h3 := h3.store (g := g9) (by simp) (.slice B3 b.length c3)
   refine hK.out _ _ (fun _ _ => HS.out _ hB) ?_
   clear hK K
   try simp only [pu]
   simp only [List.set_cons_zero] at b9
   generalize World.setCell W8 ⟨g9, 0, none⟩ (.slice B3 b.length c3) = W9 at b7 b8 b9 hB h1 h2 h3 ⊢
   refine lateP_done (by kernel_rfl) ?_ _
   go_wp2_with fail
   go_meet
   case rel => exact ⟨g7, g8, g9, B1, c1, B2, c2, B3, c3, rfl, rfl, rfl, b7, b8, b9, (RSl.fair RType.fair).mono h1 (fun _ h _ => h.1), (RSl.fair RType.fair).mono h2 (fun _ h _ => h.1), (RSl.fair RType.fair).mono h3 (fun _ h _ => h.1), hB⟩
  have G3789 : ∀ (W : World) (g7 g8 g9 : Nat) (B1 : Option Addr) (c1 : Nat) (B2 : Option Addr) (c2 : Nat) (B3 : Option Addr) (c3 : Nat), JJ W0 [g7, g8, g9] W → CPY W0 [g7, g8, g9] W (.slice B1 was.length c1) was → CPY W0 [g7, g8, g9] W (.slice B2 a.length c2) a → CPY W0 [g7, g8, g9] W (.slice B3 b.length c3) b → anyP Tryz.prog .any o Qx (fun _ => true) SW 3 #[true, true, true, true, true, true, true, true, true, false, false, false] ⟨#[.agg #[.slice A1 was.length k1], .agg #[.slice A2 a.length k2], .agg #[.slice A3 b.length k3], .pointer (some ⟨w.heap.size, 0, none⟩), .pointer (some ⟨w.heap.size + 1, 0, none⟩), .pointer (some ⟨w.heap.size + 1 + 1, 0, none⟩), .bool false, .pointer (some ⟨g7, 0, none⟩), .pointer (some ⟨g8, 0, none⟩), .pointer (some ⟨g9, 0, none⟩), undef, undef, undef, undef, undef, undef, .agg #[.slice A1 was.length k1], .agg #[.slice B1 was.length c1], .agg #[.slice A2 a.length k2], .agg #[.slice B2 a.length c2], .agg #[.slice A3 b.length k3], .agg #[.slice B3 b.length c3], undef, undef, undef, undef, undef, undef, undef, undef, undef, undef, undef, undef, undef, undef, undef, undef, undef, undef, undef, undef, undef, undef, undef, undef, undef, undef, undef, undef, undef, undef, undef, undef, undef, undef, undef, undef, undef, undef, undef, undef, undef, undef, undef, undef, undef, undef, undef, undef, undef, undef, undef, undef, undef, undef, undef, undef], []⟩ W := by
   intro W g7 g8 g9 B1 c1 B2 c2 B3 c3 hJ h1 h2 h3
   exact GEND W g7 g8 g9 B1 c1 B2 c2 B3 c3 hJ h1 h2 h3
  have G2789 : ∀ (W : World) (g7 g8 g9 : Nat) (B1 : Option Addr) (c1 : Nat) (B2 : Option Addr) (c2 : Nat), JJ W0 [g7, g8, g9] W → CPY W0 [g7, g8, g9] W (.slice B1 was.length c1) was → CPY W0 [g7, g8, g9] W (.slice B2 a.length c2) a → anyP Tryz.prog .any o Qx (fun _ => true) SW 4 #[true, true, true, true, true, false, true, true, true, false, false, false] ⟨#[.agg #[.slice A1 was.length k1], .agg #[.slice A2 a.length k2], .agg #[.slice A3 b.length k3], .pointer (some ⟨w.heap.size, 0, none⟩), .pointer (some ⟨w.heap.size + 1, 0, none⟩), .pointer (some ⟨w.heap.size + 1 + 1, 0, none⟩), .bool false, .pointer (some ⟨g7, 0, none⟩), .pointer (some ⟨g8, 0, none⟩), .pointer (some ⟨g9, 0, none⟩), undef, undef, undef, undef, undef, undef, .agg #[.slice A1 was.length k1], .agg #[.slice B1 was.length c1], .agg #[.slice A2 a.length k2], .agg #[.slice B2 a.length c2], .agg #[.slice A3 b.length k3], undef, undef, undef, undef, undef, undef, undef, undef, undef, undef, undef, undef, undef, undef, undef, undef, undef, undef, undef, undef, undef, undef, undef, undef, undef, undef, undef, undef, undef, undef, undef, undef, undef, undef, undef, undef, undef, undef, undef, undef, undef, undef, undef, undef, undef, undef, undef, undef, undef, undef, undef, undef, undef, undef, undef, undef, undef], []⟩ W := by
   intro W g7 g8 g9 B1 c1 B2 c2 hJ h1 h2
   rw [ho]
   refine lateP_one (i := 5) rfl (by kernel_rfl) (fun K hK => ?_)
   go_simp
   refine (HC3.out W hJ.1).mono ?_
   rintro e W2 ⟨B3, c3, rfl, hn, hbn⟩
   have hJ2 := hJ.call hbn
   refine hK.out _ _ (fun _ _ => HS.out _ hJ2.1) (anyP_at (L2 := #[true, true, true, true, true, true, true, true, true, false, false, false]) (by kernel_rfl) ?_)
   try simp only [pu]
   rw [← ho]
   exact G3789 W2 g7 g8 g9 B1 c1 B2 c2 B3 c3 hJ2 (h1.call hbn) (h2.call hbn) (CPY.made hJ hn hbn)
  have G378 : ∀ (W : World) (g7 g8 : Nat) (B1 : Option Addr) (c1 : Nat) (B2 : Option Addr) (c2 : Nat) (B3 : Option Addr) (c3 : Nat), JJ W0 [g7, g8] W → CPY W0 [g7, g8] W (.slice B1 was.length c1) was → CPY W0 [g7, g8] W (.slice B2 a.length c2) a → CPY W0 [g7, g8] W (.slice B3 b.length c3) b → anyP Tryz.prog .any o Qx (fun _ => true) SW 4 #[true, true, true, true, true, true, true, true, false, false, false, false] ⟨#[.agg #[.slice A1 was.length k1], .agg #[.slice A2 a.length k2], .agg #[.slice A3 b.length k3], .pointer (some ⟨w.heap.size, 0, none⟩), .pointer (some ⟨w.heap.size + 1, 0, none⟩), .pointer (some ⟨w.heap.size + 1 + 1, 0, none⟩), .bool false, .pointer (some ⟨g7, 0, none⟩), .pointer (some ⟨g8, 0, none⟩), undef, undef, undef, undef, undef, undef, undef, .agg #[.slice A1 was.length k1], .agg #[.slice B1 was.length c1], .agg #[.slice A2 a.length k2], .agg #[.slice B2 a.length c2], .agg #[.slice A3 b.length k3], .agg #[.slice B3 b.length c3], undef, undef, undef, undef, undef, undef, undef, undef, undef, undef, undef, undef, undef, undef, undef, undef, undef, undef, undef, undef, undef, undef, undef, undef, undef, undef, undef, undef, undef, undef, undef, undef, undef, undef, undef, undef, undef, undef, undef, undef, undef, undef, undef, undef, undef, undef, undef, undef, undef, undef, undef, undef, undef, undef, undef, undef], []⟩ W := by
   intro W g7 g8 B1 c1 B2 c2 B3 c3 hJ h1 h2 h3
   rw [ho]
   refine lateP_one (i := 8) rfl (by kernel_rfl) (fun K hK => ?_)
   go_simp
   have hJ2 := hJ.add (gs' := [g7, g8, W.heap.size]) ((List.perm_append_comm (l₁ := [g7, g8]) (l₂ := [W.heap.size])))
   refine hK.out _ _ (fun _ _ => HS.out _ hJ2.1) (anyP_at (L2 := #[true, true, true, true, true, true, true, true, true, false, false, false]) (by kernel_rfl) ?_)
   try simp only [pu]
   rw [← ho]
   exact G3789 _ g7 g8 W.heap.size B1 c1 B2 c2 B3 c3 hJ2 (h1.add ((List.perm_append_comm (l₁ := [g7, g8]) (l₂ := [W.heap.size])))) (h2.add ((List.perm_append_comm (l₁ := [g7, g8]) (l₂ := [W.heap.size])))) (h3.add ((List.perm_append_comm (l₁ := [g7, g8]) (l₂ := [W.heap.size]))))
  have G379 : ∀ (W : World) (g7 g9 : Nat) (B1 : Option Addr) (c1 : Nat) (B2 : Option Addr) (c2 : Nat) (B3 : Option Addr) (c3 : Nat), JJ W0 [g7, g9] W → CPY W0 [g7, g9] W (.slice B1 was.length c1) was → CPY W0 [g7, g9] W (.slice B2 a.length c2) a → CPY W0 [g7, g9] W (.slice B3 b.length c3) b → anyP Tryz.prog .any o Qx (fun _ => true) SW 4 #[true, true, true, true, true, true, true, false, true, false, false, false] ⟨#[.agg #[.slice A1 was.length k1], .agg #[.slice A2 a.length k2], .agg #[.slice A3 b.length k3], .pointer (some ⟨w.heap.size, 0, none⟩), .pointer (some ⟨w.heap.size + 1, 0, none⟩), .pointer (some ⟨w.heap.size + 1 + 1, 0, none⟩), .bool false, .pointer (some ⟨g7, 0, none⟩), undef, .pointer (some ⟨g9, 0, none⟩), undef, undef, undef, undef, undef, undef, .agg #[.slice A1 was.length k1], .agg #[.slice B1 was.length c1], .agg #[.slice A2 a.length k2], .agg #[.slice B2 a.length c2], .agg #[.slice A3 b.length k3], .agg #[.slice B3 b.length c3], undef, undef, undef, undef, undef, undef, undef, undef, undef, undef, undef, undef, undef, undef, undef, undef, undef, undef, undef, undef, undef, undef, undef, undef, undef, undef, undef, undef, undef, undef, undef, undef, undef, undef, undef, undef, undef, undef, undef, undef, undef, undef, undef, undef, undef, undef, undef, undef, undef, undef, undef, undef, undef, undef, undef, undef], []⟩ W := by
   intro W g7 g9 B1 c1 B2 c2 B3 c3 hJ h1 h2 h3
   rw [ho]
   refine lateP_one (i := 7) rfl (by kernel_rfl) (fun K hK => ?_)
   go_simp
   have hJ2 := hJ.add (gs' := [g7, W.heap.size, g9]) (List.Perm.swap _ _ _)
   refine hK.out _ _ (fun _ _ => HS.out _ hJ2.1) (anyP_at (L2 := #[true, true, true, true, true, true, true, true, true, false, false, false]) (by kernel_rfl) ?_)
   try simp only [pu]
   rw [← ho]
   exact G3789 _ g7 W.heap.size g9 B1 c1 B2 c2 B3 c3 hJ2 (h1.add (List.Perm.swap _ _ _)) (h2.add (List.Perm.swap _ _ _)) (h3.add (List.Perm.swap _ _ _))
  have G389 : ∀ (W : World) (g8 g9 : Nat) (B1 : Option Addr) (c1 : Nat) (B2 : Option Addr) (c2 : Nat) (B3 : Option Addr) (c3 : Nat), JJ W0 [g8, g9] W → CPY W0 [g8, g9] W (.slice B1 was.length c1) was → CPY W0 [g8, g9] W (.slice B2 a.length c2) a → CPY W0 [g8, g9] W (.slice B3 b.length c3) b → anyP Tryz.prog .any o Qx (fun _ => true) SW 4 #[true, true, true, true, true, true, false, true, true, false, false, false] ⟨#[.agg #[.slice A1 was.length k1], .agg #[.slice A2 a.length k2], .agg #[.slice A3 b.length k3], .pointer (some ⟨w.heap.size, 0, none⟩), .pointer (some ⟨w.heap.size + 1, 0, none⟩), .pointer (some ⟨w.heap.size + 1 + 1, 0, none⟩), .bool false, undef, .pointer (some ⟨g8, 0, none⟩), .pointer (some ⟨g9, 0, none⟩), undef, undef, undef, undef, undef, undef, .agg #[.slice A1 was.length k1], .agg #[.slice B1 was.length c1], .agg #[.slice A2 a.length k2], .agg #[.slice B2 a.length c2], .agg #[.slice A3 b.length k3], .agg #[.slice B3 b.length c3], undef, undef, undef, undef, undef, undef, undef, undef, undef, undef, undef, undef, undef, undef, undef, undef, undef, undef, undef, undef, undef, undef, undef, undef, undef, undef, undef, undef, undef, undef, undef, undef, undef, undef, undef, undef, undef, undef, undef, undef, undef, undef, undef, undef, undef, undef, undef, undef, undef, undef, undef, undef, undef, undef, undef, undef], []⟩ W := by
   intro W g8 g9 B1 c1 B2 c2 B3 c3 hJ h1 h2 h3
   rw [ho]
   refine lateP_one (i := 6) rfl (by kernel_rfl) (fun K hK => ?_)
   go_simp
   have hJ2 := hJ.add (gs' := [W.heap.size, g8, g9]) (List.Perm.refl _)
   refine hK.out _ _ (fun _ _ => HS.out _ hJ2.1) (anyP_at (L2 := #[true, true, true, true, true, true, true, true, true, false, false, false]) (by kernel_rfl) ?_)
   try simp only [pu]
   rw [← ho]
   exact G3789 _ W.heap.size g8 g9 B1 c1 B2 c2 B3 c3 hJ2 (h1.add (List.Perm.refl _)) (h2.add (List.Perm.refl _)) (h3.add (List.Perm.refl _))
  have G1789 : ∀ (W : World) (g7 g8 g9 : Nat) (B1 : Option Addr) (c1 : Nat), JJ W0 [g7, g8, g9] W → CPY W0 [g7, g8, g9] W (.slice B1 was.length c1) was → anyP Tryz.prog .any o Qx (fun _ => true) SW 5 #[true, true, true, false, true, false, true, true, true, false, false, false] ⟨#[.agg #[.slice A1 was.length k1], .agg #[.slice A2 a.length k2], .agg #[.slice A3 b.length k3], .pointer (some ⟨w.heap.size, 0, none⟩), .pointer (some ⟨w.heap.size + 1, 0, none⟩), .pointer (some ⟨w.heap.size + 1 + 1, 0, none⟩), .bool false, .pointer (some ⟨g7, 0, none⟩), .pointer (some ⟨g8, 0, none⟩), .pointer (some ⟨g9, 0, none⟩), undef, undef, undef, undef, undef, undef, .agg #[.slice A1 was.length k1], .agg #[.slice B1 was.length c1], .agg #[.slice A2 a.length k2], undef, .agg #[.slice A3 b.length k3], undef, undef, undef, undef, undef, undef, undef, undef, undef, undef, undef, undef, undef, undef, undef, undef, undef, undef, undef, undef, undef, undef, undef, undef, undef, undef, undef, undef, undef, undef, undef, undef, undef, undef, undef, undef, undef, undef, undef, undef, undef, undef, undef, undef, undef, undef, undef, undef, undef, undef, undef, undef, undef, undef, undef, undef, undef], []⟩ W := by
   intro W g7 g8 g9 B1 c1 hJ h1
   rw [ho]
   refine lateP_one (i := 3) rfl (by kernel_rfl) (fun K hK => ?_)
   go_simp
   refine (HC2.out W hJ.1).mono ?_
   rintro e W2 ⟨B2, c2, rfl, hn, hbn⟩
   have hJ2 := hJ.call hbn
   refine hK.out _ _ (fun _ _ => HS.out _ hJ2.1) (anyP_at (L2 := #[true, true, true, true, true, false, true, true, true, false, false, false]) (by kernel_rfl) ?_)
   try simp only [pu]
   rw [← ho]
   exact G2789 W2 g7 g8 g9 B1 c1 B2 c2 hJ2 (h1.call hbn) (CPY.made hJ hn hbn)
  have G278 : ∀ (W : World) (g7 g8 : Nat) (B1 : Option Addr) (c1 : Nat) (B2 : Option Addr) (c2 : Nat), JJ W0 [g7, g8] W → CPY W0 [g7, g8] W (.slice B1 was.length c1) was → CPY W0 [g7, g8] W (.slice B2 a.length c2) a → anyP Tryz.prog .any o Qx (fun _ => true) SW 5 #[true, true, true, true, true, false, true, true, false, false, false, false] ⟨#[.agg #[.slice A1 was.length k1], .agg #[.slice A2 a.length k2], .agg #[.slice A3 b.length k3], .pointer (some ⟨w.heap.size, 0, none⟩), .pointer (some ⟨w.heap.size + 1, 0, none⟩), .pointer (some ⟨w.heap.size + 1 + 1, 0, none⟩), .bool false, .pointer (some ⟨g7, 0, none⟩), .pointer (some ⟨g8, 0, none⟩), undef, undef, undef, undef, undef, undef, undef, .agg #[.slice A1 was.length k1], .agg #[.slice B1 was.length c1], .agg #[.slice A2 a.length k2], .agg #[.slice B2 a.length c2], .agg #[.slice A3 b.length k3], undef, undef, undef, undef, undef, undef, undef, undef, undef, undef, undef, undef, undef, undef, undef, undef, undef, undef, undef, undef, undef, undef, undef, undef, undef, undef, undef, undef, undef, undef, undef, undef, undef, undef, undef, undef, undef, undef, undef, undef, undef, undef, undef, undef, undef, undef, undef, undef, undef, undef, undef, undef, undef, undef, undef, undef, undef], []⟩ W := by
   intro W g7 g8 B1 c1 B2 c2 hJ h1 h2
   rw [ho]
   refine lateP_two (i := 5) (j := 8) rfl rfl (by kernel_rfl) (fun K hK => ?_) (fun K hK => ?_)
   ·go_simp
    refine (HC3.out W hJ.1).mono ?_
    rintro e W2 ⟨B3, c3, rfl, hn, hbn⟩
    have hJ2 := hJ.call hbn
    refine hK.out _ _ (fun _ _ => HS.out _ hJ2.1) (anyP_at (L2 := #[true, true, true, true, true, true, true, true, false, false, false, false]) (by kernel_rfl) ?_)
    try simp only [pu]
    rw [← ho]
    exact G378 W2 g7 g8 B1 c1 B2 c2 B3 c3 hJ2 (h1.call hbn) (h2.call hbn) (CPY.made hJ hn hbn)
   ·go_simp
    have hJ2 := hJ.add (gs' := [g7, g8, W.heap.size]) ((List.perm_append_comm (l₁ := [g7, g8]) (l₂ := [W.heap.size])))
    refine hK.out _ _ (fun _ _ => HS.out _ hJ2.1) (anyP_at (L2 := #[true, true, true, true, true, false, true, true, true, false, false, false]) (by kernel_rfl) ?_)
    try simp only [pu]
    rw [← ho]
    exact G2789 _ g7 g8 W.heap.size B1 c1 B2 c2 hJ2 (h1.add ((List.perm_append_comm (l₁ := [g7, g8]) (l₂ := [W.heap.size])))) (h2.add ((List.perm_append_comm (l₁ := [g7, g8]) (l₂ := [W.heap.size]))))
  have G279 : ∀ (W : World) (g7 g9 : Nat) (B1 : Option Addr) (c1 : Nat) (B2 : Option Addr) (c2 : Nat), JJ W0 [g7, g9] W → CPY W0 [g7, g9] W (.slice B1 was.length c1) was → CPY W0 [g7, g9] W (.slice B2 a.length c2) a → anyP Tryz.prog .any o Qx (fun _ => true) SW 5 #[true, true, true, true, true, false, true, false, true, false, false, false] ⟨#[.agg #[.slice A1 was.length k1], .agg #[.slice A2 a.length k2], .agg #[.slice A3 b.length k3], .pointer (some ⟨w.heap.size, 0, none⟩), .pointer (some ⟨w.heap.size + 1, 0, none⟩), .pointer (some ⟨w.heap.size + 1 + 1, 0, none⟩), .bool false, .pointer (some ⟨g7, 0, none⟩), undef, .pointer (some ⟨g9, 0, none⟩), undef, undef, undef, undef, undef, undef, .agg #[.slice A1 was.length k1], .agg #[.slice B1 was.length c1], .agg #[.slice A2 a.length k2], .agg #[.slice B2 a.length c2], .agg #[.slice A3 b.length k3], undef, undef, undef, undef, undef, undef, undef, undef, undef, undef, undef, undef, undef, undef, undef, undef, undef, undef, undef, undef, undef, undef, undef, undef, undef, undef, undef, undef, undef, undef, undef, undef, undef, undef, undef, undef, undef, undef, undef, undef, undef, undef, undef, undef, undef, undef, undef, undef, undef, undef, undef, undef, undef, undef, undef, undef, undef], []⟩ W := by
   intro W g7 g9 B1 c1 B2 c2 hJ h1 h2
   rw [ho]
   refine lateP_two (i := 5) (j := 7) rfl rfl (by kernel_rfl) (fun K hK => ?_) (fun K hK => ?_)
   ·go_simp
    refine (HC3.out W hJ.1).mono ?_
    rintro e W2 ⟨B3, c3, rfl, hn, hbn⟩
    have hJ2 := hJ.call hbn
    refine hK.out _ _ (fun _ _ => HS.out _ hJ2.1) (anyP_at (L2 := #[true, true, true, true, true, true, true, false, true, false, false, false]) (by kernel_rfl) ?_)
    try simp only [pu]
    rw [← ho]
    exact G379 W2 g7 g9 B1 c1 B2 c2 B3 c3 hJ2 (h1.call hbn) (h2.call hbn) (CPY.made hJ hn hbn)
   ·go_simp
    have hJ2 := hJ.add (gs' := [g7, W.heap.size, g9]) (List.Perm.swap _ _ _)
    refine hK.out _ _ (fun _ _ => HS.out _ hJ2.1) (anyP_at (L2 := #[true, true, true, true, true, false, true, true, true, false, false, false]) (by kernel_rfl) ?_)
    try simp only [pu]
    rw [← ho]
    exact G2789 _ g7 W.heap.size g9 B1 c1 B2 c2 hJ2 (h1.add (List.Perm.swap _ _ _)) (h2.add (List.Perm.swap _ _ _))
  have G289 : ∀ (W : World) (g8 g9 : Nat) (B1 : Option Addr) (c1 : Nat) (B2 : Option Addr) (c2 : Nat), JJ W0 [g8, g9] W → CPY W0 [g8, g9] W (.slice B1 was.length c1) was → CPY W0 [g8, g9] W (.slice B2 a.length c2) a → anyP Tryz.prog .any o Qx (fun _ => true) SW 5 #[true, true, true, true, true, false, false, true, true, false, false, false] ⟨#[.agg #[.slice A1 was.length k1], .agg #[.slice A2 a.length k2], .agg #[.slice A3 b.length k3], .pointer (some ⟨w.heap.size, 0, none⟩), .pointer (some ⟨w.heap.size + 1, 0, none⟩), .pointer (some ⟨w.heap.size + 1 + 1, 0, none⟩), .bool false, undef, .pointer (some ⟨g8, 0, none⟩), .pointer (some ⟨g9, 0, none⟩), undef, undef, undef, undef, undef, undef, .agg #[.slice A1 was.length k1], .agg #[.slice B1 was.length c1], .agg #[.slice A2 a.length k2], .agg #[.slice B2 a.length c2], .agg #[.slice A3 b.length k3], undef, undef, undef, undef, undef, undef, undef, undef, undef, undef, undef, undef, undef, undef, undef, undef, undef, undef, undef, undef, undef, undef, undef, undef, undef, undef, undef, undef, undef, undef, undef, undef, undef, undef, undef, undef, undef, undef, undef, undef, undef, undef, undef, undef, undef, undef, undef, undef, undef, undef, undef, undef, undef, undef, undef, undef, undef], []⟩ W := by
   intro W g8 g9 B1 c1 B2 c2 hJ h1 h2
   rw [ho]
   refine lateP_two (i := 5) (j := 6) rfl rfl (by kernel_rfl) (fun K hK => ?_) (fun K hK => ?_)
   ·go_simp
    refine (HC3.out W hJ.1).mono ?_
    rintro e W2 ⟨B3, c3, rfl, hn, hbn⟩
    have hJ2 := hJ.call hbn
    refine hK.out _ _ (fun _ _ => HS.out _ hJ2.1) (anyP_at (L2 := #[true, true, true, true, true, true, false, true, true, false, false, false]) (by kernel_rfl) ?_)
    try simp only [pu]
    rw [← ho]
    exact G389 W2 g8 g9 B1 c1 B2 c2 B3 c3 hJ2 (h1.call hbn) (h2.call hbn) (CPY.made hJ hn hbn)
   ·go_simp
    have hJ2 := hJ.add (gs' := [W.heap.size, g8, g9]) (List.Perm.refl _)
    refine hK.out _ _ (fun _ _ => HS.out _ hJ2.1) (anyP_at (L2 := #[true, true, true, true, true, false, true, true, true, false, false, false]) (by kernel_rfl) ?_)
    try simp only [pu]
    rw [← ho]
    exact G2789 _ W.heap.size g8 g9 B1 c1 B2 c2 hJ2 (h1.add (List.Perm.refl _)) (h2.add (List.Perm.refl _))
  have G37 : ∀ (W : World) (g7 : Nat) (B1 : Option Addr) (c1 : Nat) (B2 : Option Addr) (c2 : Nat) (B3 : Option Addr) (c3 : Nat), JJ W0 [g7] W → CPY W0 [g7] W (.slice B1 was.length c1) was → CPY W0 [g7] W (.slice B2 a.length c2) a → CPY W0 [g7] W (.slice B3 b.length c3) b → anyP Tryz.prog .any o Qx (fun _ => true) SW 5 #[true, true, true, true, true, true, true, false, false, false, false, false] ⟨#[.agg #[.slice A1 was.length k1], .agg #[.slice A2 a.length k2], .agg #[.slice A3 b.length k3], .pointer (some ⟨w.heap.size, 0, none⟩), .pointer (some ⟨w.heap.size + 1, 0, none⟩), .pointer (some ⟨w.heap.size + 1 + 1, 0, none⟩), .bool false, .pointer (some ⟨g7, 0, none⟩), undef, undef, undef, undef, undef, undef, undef, undef, .agg #[.slice A1 was.length k1], .agg #[.slice B1 was.length c1], .agg #[.slice A2 a.length k2], .agg #[.slice B2 a.length c2], .agg #[.slice A3 b.length k3], .agg #[.slice B3 b.length c3], undef, undef, undef, undef, undef, undef, undef, undef, undef, undef, undef, undef, undef, undef, undef, undef, undef, undef, undef, undef, undef, undef, undef, undef, undef, undef, undef, undef, undef, undef, undef, undef, undef, undef, undef, undef, undef, undef, undef, undef, undef, undef, undef, undef, undef, undef, undef, undef, undef, undef, undef, undef, undef, undef, undef, undef], []⟩ W := by
   intro W g7 B1 c1 B2 c2 B3 c3 hJ h1 h2 h3
   rw [ho]
   refine lateP_two (i := 7) (j := 8) rfl rfl (by kernel_rfl) (fun K hK => ?_) (fun K hK => ?_)
   ·go_simp
    have hJ2 := hJ.add (gs' := [g7, W.heap.size]) (List.Perm.swap _ _ _)
    refine hK.out _ _ (fun _ _ => HS.out _ hJ2.1) (anyP_at (L2 := #[true, true, true, true, true, true, true, true, false, false, false, false]) (by kernel_rfl) ?_)
    try simp only [pu]
    rw [← ho]
    exact G378 _ g7 W.heap.size B1 c1 B2 c2 B3 c3 hJ2 (h1.add (List.Perm.swap _ _ _)) (h2.add (List.Perm.swap _ _ _)) (h3.add (List.Perm.swap _ _ _))
   ·go_simp
    have hJ2 := hJ.add (gs' := [g7, W.heap.size]) (List.Perm.swap _ _ _)
    refine hK.out _ _ (fun _ _ => HS.out _ hJ2.1) (anyP_at (L2 := #[true, true, true, true, true, true, true, false, true, false, false, false]) (by kernel_rfl) ?_)
    try simp only [pu]
    rw [← ho]
    exact G379 _ g7 W.heap.size B1 c1 B2 c2 B3 c3 hJ2 (h1.add (List.Perm.swap _ _ _)) (h2.add (List.Perm.swap _ _ _)) (h3.add (List.Perm.swap _ _ _))
  have G38 : ∀ (W : World) (g8 : Nat) (B1 : Option Addr) (c1 : Nat) (B2 : Option Addr) (c2 : Nat) (B3 : Option Addr) (c3 : Nat), JJ W0 [g8] W → CPY W0 [g8] W (.slice B1 was.length c1) was → CPY W0 [g8] W (.slice B2 a.length c2) a → CPY W0 [g8] W (.slice B3 b.length c3) b → anyP Tryz.prog .any o Qx (fun _ => true) SW 5 #[true, true, true, true, true, true, false, true, false, false, false, false] ⟨#[.agg #[.slice A1 was.length k1], .agg #[.slice A2 a.length k2], .agg #[.slice A3 b.length k3], .pointer (some ⟨w.heap.size, 0, none⟩), .pointer (some ⟨w.heap.size + 1, 0, none⟩), .pointer (some ⟨w.heap.size + 1 + 1, 0, none⟩), .bool false, undef, .pointer (some ⟨g8, 0, none⟩), undef, undef, undef, undef, undef, undef, undef, .agg #[.slice A1 was.length k1], .agg #[.slice B1 was.length c1], .agg #[.slice A2 a.length k2], .agg #[.slice B2 a.length c2], .agg #[.slice A3 b.length k3], .agg #[.slice B3 b.length c3], undef, undef, undef, undef, undef, undef, undef, undef, undef, undef, undef, undef, undef, undef, undef, undef, undef, undef, undef, undef, undef, undef, undef, undef, undef, undef, undef, undef, undef, undef, undef, undef, undef, undef, undef, undef, undef, undef, undef, undef, undef, undef, undef, undef, undef, undef, undef, undef, undef, undef, undef, undef, undef, undef, undef, undef], []⟩ W := by
   intro W g8 B1 c1 B2 c2 B3 c3 hJ h1 h2 h3
   rw [ho]
   refine lateP_two (i := 6) (j := 8) rfl rfl (by kernel_rfl) (fun K hK => ?_) (fun K hK => ?_)
   ·go_simp
    have hJ2 := hJ.add (gs' := [W.heap.size, g8]) (List.Perm.refl _)
    refine hK.out _ _ (fun _ _ => HS.out _ hJ2.1) (anyP_at (L2 := #[true, true, true, true, true, true, true, true, false, false, false, false]) (by kernel_rfl) ?_)
    try simp only [pu]
    rw [← ho]
    exact G378 _ W.heap.size g8 B1 c1 B2 c2 B3 c3 hJ2 (h1.add (List.Perm.refl _)) (h2.add (List.Perm.refl _)) (h3.add (List.Perm.refl _))
   ·go_simp
    have hJ2 := hJ.add (gs' := [g8, W.heap.size]) (List.Perm.swap _ _ _)
    refine hK.out _ _ (fun _ _ => HS.out _ hJ2.1) (anyP_at (L2 := #[true, true, true, true, true, true, false, true, true, false, false, false]) (by kernel_rfl) ?_)
    try simp only [pu]
    rw [← ho]
    exact G389 _ g8 W.heap.size B1 c1 B2 c2 B3 c3 hJ2 (h1.add (List.Perm.swap _ _ _)) (h2.add (List.Perm.swap _ _ _)) (h3.add (List.Perm.swap _ _ _))
  have G39 : ∀ (W : World) (g9 : Nat) (B1 : Option Addr) (c1 : Nat) (B2 : Option Addr) (c2 : Nat) (B3 : Option Addr) (c3 : Nat), JJ W0 [g9] W → CPY W0 [g9] W (.slice B1 was.length c1) was → CPY W0 [g9] W (.slice B2 a.length c2) a → CPY W0 [g9] W (.slice B3 b.length c3) b → anyP Tryz.prog .any o Qx (fun _ => true) SW 5 #[true, true, true, true, true, true, false, false, true, false, false, false] ⟨#[.agg #[.slice A1 was.length k1], .agg #[.slice A2 a.length k2], .agg #[.slice A3 b.length k3], .pointer (some ⟨w.heap.size, 0, none⟩), .pointer (some ⟨w.heap.size + 1, 0, none⟩), .pointer (some ⟨w.heap.size + 1 + 1, 0, none⟩), .bool false, undef, undef, .pointer (some ⟨g9, 0, none⟩), undef, undef, undef, undef, undef, undef, .agg #[.slice A1 was.length k1], .agg #[.slice B1 was.length c1], .agg #[.slice A2 a.length k2], .agg #[.slice B2 a.length c2], .agg #[.slice A3 b.length k3], .agg #[.slice B3 b.length c3], undef, undef, undef, undef, undef, undef, undef, undef, undef, undef, undef, undef, undef, undef, undef, undef, undef, undef, undef, undef, undef, undef, undef, undef, undef, undef, undef, undef, undef, undef, undef, undef, undef, undef, undef, undef, undef, undef, undef, undef, undef, undef, undef, undef, undef, undef, undef, undef, undef, undef, undef, undef, undef, undef, undef, undef], []⟩ W := by
   intro W g9 B1 c1 B2 c2 B3 c3 hJ h1 h2 h3
   rw [ho]
   refine lateP_two (i := 6) (j := 7) rfl rfl (by kernel_rfl) (fun K hK => ?_) (fun K hK => ?_)
   ·go_simp
    have hJ2 := hJ.add (gs' := [W.heap.size, g9]) (List.Perm.refl _)
    refine hK.out _ _ (fun _ _ => HS.out _ hJ2.1) (anyP_at (L2 := #[true, true, true, true, true, true, true, false, true, false, false, false]) (by kernel_rfl) ?_)
    try simp only [pu]
    rw [← ho]
    exact G379 _ W.heap.size g9 B1 c1 B2 c2 B3 c3 hJ2 (h1.add (List.Perm.refl _)) (h2.add (List.Perm.refl _)) (h3.add (List.Perm.refl _))
   ·go_simp
    have hJ2 := hJ.add (gs' := [W.heap.size, g9]) (List.Perm.refl _)
    refine hK.out _ _ (fun _ _ => HS.out _ hJ2.1) (anyP_at (L2 := #[true, true, true, true, true, true, false, true, true, false, false, false]) (by kernel_rfl) ?_)
    try simp only [pu]
    rw [← ho]
    exact G389 _ W.heap.size g9 B1 c1 B2 c2 B3 c3 hJ2 (h1.add (List.Perm.refl _)) (h2.add (List.Perm.refl _)) (h3.add (List.Perm.refl _))
  have G0789 : ∀ (W : World) (g7 g8 g9 : Nat), JJ W0 [g7, g8, g9] W → anyP Tryz.prog .any o Qx (fun _ => true) SW 6 #[true, false, true, false, true, false, true, true, true, false, false, false] ⟨#[.agg #[.slice A1 was.length k1], .agg #[.slice A2 a.length k2], .agg #[.slice A3 b.length k3], .pointer (some ⟨w.heap.size, 0, none⟩), .pointer (some ⟨w.heap.size + 1, 0, none⟩), .pointer (some ⟨w.heap.size + 1 + 1, 0, none⟩), .bool false, .pointer (some ⟨g7, 0, none⟩), .pointer (some ⟨g8, 0, none⟩), .pointer (some ⟨g9, 0, none⟩), undef, undef, undef, undef, undef, undef, .agg #[.slice A1 was.length k1], undef, .agg #[.slice A2 a.length k2], undef, .agg #[.slice A3 b.length k3], undef, undef, undef, undef, undef, undef, undef, undef, undef, undef, undef, undef, undef, undef, undef, undef, undef, undef, undef, undef, undef, undef, undef, undef, undef, undef, undef, undef, undef, undef, undef, undef, undef, undef, undef, undef, undef, undef, undef, undef, undef, undef, undef, undef, undef, undef, undef, undef, undef, undef, undef, undef, undef, undef, undef, undef, undef], []⟩ W := by
   intro W g7 g8 g9 hJ
   rw [ho]
   refine lateP_one (i := 1) rfl (by kernel_rfl) (fun K hK => ?_)
   go_simp
   refine (HC1.out W hJ.1).mono ?_
   rintro e W2 ⟨B1, c1, rfl, hn, hbn⟩
   have hJ2 := hJ.call hbn
   refine hK.out _ _ (fun _ _ => HS.out _ hJ2.1) (anyP_at (L2 := #[true, true, true, false, true, false, true, true, true, false, false, false]) (by kernel_rfl) ?_)
   try simp only [pu]
   rw [← ho]
   exact G1789 W2 g7 g8 g9 B1 c1 hJ2 (CPY.made hJ hn hbn)
  have G178 : ∀ (W : World) (g7 g8 : Nat) (B1 : Option Addr) (c1 : Nat), JJ W0 [g7, g8] W → CPY W0 [g7, g8] W (.slice B1 was.length c1) was → anyP Tryz.prog .any o Qx (fun _ => true) SW 6 #[true, true, true, false, true, false, true, true, false, false, false, false] ⟨#[.agg #[.slice A1 was.length k1], .agg #[.slice A2 a.length k2], .agg #[.slice A3 b.length k3], .pointer (some ⟨w.heap.size, 0, none⟩), .pointer (some ⟨w.heap.size + 1, 0, none⟩), .pointer (some ⟨w.heap.size + 1 + 1, 0, none⟩), .bool false, .pointer (some ⟨g7, 0, none⟩), .pointer (some ⟨g8, 0, none⟩), undef, undef, undef, undef, undef, undef, undef, .agg #[.slice A1 was.length k1], .agg #[.slice B1 was.length c1], .agg #[.slice A2 a.length k2], undef, .agg #[.slice A3 b.length k3], undef, undef, undef, undef, undef, undef, undef, undef, undef, undef, undef, undef, undef, undef, undef, undef, undef, undef, undef, undef, undef, undef, undef, undef, undef, undef, undef, undef, undef, undef, undef, undef, undef, undef, undef, undef, undef, undef, undef, undef, undef, undef, undef, undef, undef, undef, undef, undef, undef, undef, undef, undef, undef, undef, undef, undef, undef], []⟩ W := by
   intro W g7 g8 B1 c1 hJ h1
   rw [ho]
   refine lateP_two (i := 3) (j := 8) rfl rfl (by kernel_rfl) (fun K hK => ?_) (fun K hK => ?_)
   ·go_simp
    refine (HC2.out W hJ.1).mono ?_
    rintro e W2 ⟨B2, c2, rfl, hn, hbn⟩
    have hJ2 := hJ.call hbn
    refine hK.out _ _ (fun _ _ => HS.out _ hJ2.1) (anyP_at (L2 := #[true, true, true, true, true, false, true, true, false, false, false, false]) (by kernel_rfl) ?_)
    try simp only [pu]
    rw [← ho]
    exact G278 W2 g7 g8 B1 c1 B2 c2 hJ2 (h1.call hbn) (CPY.made hJ hn hbn)
   ·go_simp
    have hJ2 := hJ.add (gs' := [g7, g8, W.heap.size]) ((List.perm_append_comm (l₁ := [g7, g8]) (l₂ := [W.heap.size])))
    refine hK.out _ _ (fun _ _ => HS.out _ hJ2.1) (anyP_at (L2 := #[true, true, true, false, true, false, true, true, true, false, false, false]) (by kernel_rfl) ?_)
    try simp only [pu]
    rw [← ho]
    exact G1789 _ g7 g8 W.heap.size B1 c1 hJ2 (h1.add ((List.perm_append_comm (l₁ := [g7, g8]) (l₂ := [W.heap.size]))))
  have G179 : ∀ (W : World) (g7 g9 : Nat) (B1 : Option Addr) (c1 : Nat), JJ W0 [g7, g9] W → CPY W0 [g7, g9] W (.slice B1 was.length c1) was → anyP Tryz.prog .any o Qx (fun _ => true) SW 6 #[true, true, true, false, true, false, true, false, true, false, false, false] ⟨#[.agg #[.slice A1 was.length k1], .agg #[.slice A2 a.length k2], .agg #[.slice A3 b.length k3], .pointer (some ⟨w.heap.size, 0, none⟩), .pointer (some ⟨w.heap.size + 1, 0, none⟩), .pointer (some ⟨w.heap.size + 1 + 1, 0, none⟩), .bool false, .pointer (some ⟨g7, 0, none⟩), undef, .pointer (some ⟨g9, 0, none⟩), undef, undef, undef, undef, undef, undef, .agg #[.slice A1 was.length k1], .agg #[.slice B1 was.length c1], .agg #[.slice A2 a.length k2], undef, .agg #[.slice A3 b.length k3], undef, undef, undef, undef, undef, undef, undef, undef, undef, undef, undef, undef, undef, undef, undef, undef, undef, undef, undef, undef, undef, undef, undef, undef, undef, undef, undef, undef, undef, undef, undef, undef, undef, undef, undef, undef, undef, undef, undef, undef, undef, undef, undef, undef, undef, undef, undef, undef, undef, undef, undef, undef, undef, undef, undef, undef, undef], []⟩ W := by
   intro W g7 g9 B1 c1 hJ h1
   rw [ho]
   refine lateP_two (i := 3) (j := 7) rfl rfl (by kernel_rfl) (fun K hK => ?_) (fun K hK => ?_)
   ·go_simp
    refine (HC2.out W hJ.1).mono ?_
    rintro e W2 ⟨B2, c2, rfl, hn, hbn⟩
    have hJ2 := hJ.call hbn
    refine hK.out _ _ (fun _ _ => HS.out _ hJ2.1) (anyP_at (L2 := #[true, true, true, true, true, false, true, false, true, false, false, false]) (by kernel_rfl) ?_)
    try simp only [pu]
    rw [← ho]
    exact G279 W2 g7 g9 B1 c1 B2 c2 hJ2 (h1.call hbn) (CPY.made hJ hn hbn)
   ·go_simp
    have hJ2 := hJ.add (gs' := [g7, W.heap.size, g9]) (List.Perm.swap _ _ _)
    refine hK.out _ _ (fun _ _ => HS.out _ hJ2.1) (anyP_at (L2 := #[true, true, true, false, true, false, true, true, true, false, false, false]) (by kernel_rfl) ?_)
    try simp only [pu]
    rw [← ho]
    exact G1789 _ g7 W.heap.size g9 B1 c1 hJ2 (h1.add (List.Perm.swap _ _ _))
  have G189 : ∀ (W : World) (g8 g9 : Nat) (B1 : Option Addr) (c1 : Nat), JJ W0 [g8, g9] W → CPY W0 [g8, g9] W (.slice B1 was.length c1) was → anyP Tryz.prog .any o Qx (fun _ => true) SW 6 #[true, true, true, false, true, false, false, true, true, false, false, false] ⟨#[.agg #[.slice A1 was.length k1], .agg #[.slice A2 a.length k2], .agg #[.slice A3 b.length k3], .pointer (some ⟨w.heap.size, 0, none⟩), .pointer (some ⟨w.heap.size + 1, 0, none⟩), .pointer (some ⟨w.heap.size + 1 + 1, 0, none⟩), .bool false, undef, .pointer (some ⟨g8, 0, none⟩), .pointer (some ⟨g9, 0, none⟩), undef, undef, undef, undef, undef, undef, .agg #[.slice A1 was.length k1], .agg #[.slice B1 was.length c1], .agg #[.slice A2 a.length k2], undef, .agg #[.slice A3 b.length k3], undef, undef, undef, undef, undef, undef, undef, undef, undef, undef, undef, undef, undef, undef, undef, undef, undef, undef, undef, undef, undef, undef, undef, undef, undef, undef, undef, undef, undef, undef, undef, undef, undef, undef, undef, undef, undef, undef, undef, undef, undef, undef, undef, undef, undef, undef, undef, undef, undef, undef, undef, undef, undef, undef, undef, undef, undef], []⟩ W := by
   intro W g8 g9 B1 c1 hJ h1
   rw [ho]
   refine lateP_two (i := 3) (j := 6) rfl rfl (by kernel_rfl) (fun K hK => ?_) (fun K hK => ?_)
   ·go_simp
    refine (HC2.out W hJ.1).mono ?_
    rintro e W2 ⟨B2, c2, rfl, hn, hbn⟩
    have hJ2 := hJ.call hbn
    refine hK.out _ _ (fun _ _ => HS.out _ hJ2.1) (anyP_at (L2 := #[true, true, true, true, true, false, false, true, true, false, false, false]) (by kernel_rfl) ?_)
    try simp only [pu]
    rw [← ho]
    exact G289 W2 g8 g9 B1 c1 B2 c2 hJ2 (h1.call hbn) (CPY.made hJ hn hbn)
   ·go_simp
    have hJ2 := hJ.add (gs' := [W.heap.size, g8, g9]) (List.Perm.refl _)
    refine hK.out _ _ (fun _ _ => HS.out _ hJ2.1) (anyP_at (L2 := #[true, true, true, false, true, false, true, true, true, false, false, false]) (by kernel_rfl) ?_)
    try simp only [pu]
    rw [← ho]
    exact G1789 _ W.heap.size g8 g9 B1 c1 hJ2 (h1.add (List.Perm.refl _))
  have G27 : ∀ (W : World) (g7 : Nat) (B1 : Option Addr) (c1 : Nat) (B2 : Option Addr) (c2 : Nat), JJ W0 [g7] W → CPY W0 [g7] W (.slice B1 was.length c1) was → CPY W0 [g7] W (.slice B2 a.length c2) a → anyP Tryz.prog .any o Qx (fun _ => true) SW 6 #[true, true, true, true, true, false, true, false, false, false, false, false] ⟨#[.agg #[.slice A1 was.length k1], .agg #[.slice A2 a.length k2], .agg #[.slice A3 b.length k3], .pointer (some ⟨w.heap.size, 0, none⟩), .pointer (some ⟨w.heap.size + 1, 0, none⟩), .pointer (some ⟨w.heap.size + 1 + 1, 0, none⟩), .bool false, .pointer (some ⟨g7, 0, none⟩), undef, undef, undef, undef, undef, undef, undef, undef, .agg #[.slice A1 was.length k1], .agg #[.slice B1 was.length c1], .agg #[.slice A2 a.length k2], .agg #[.slice B2 a.length c2], .agg #[.slice A3 b.length k3], undef, undef, undef, undef, undef, undef, undef, undef, undef, undef, undef, undef, undef, undef, undef, undef, undef, undef, undef, undef, undef, undef, undef, undef, undef, undef, undef, undef, undef, undef, undef, undef, undef, undef, undef, undef, undef, undef, undef, undef, undef, undef, undef, undef, undef, undef, undef, undef, undef, undef, undef, undef, undef, undef, undef, undef, undef], []⟩ W := by
   intro W g7 B1 c1 B2 c2 hJ h1 h2
   rw [ho]
   refine lateP_three (i := 5) (j := 7) (k := 8) rfl rfl rfl (by kernel_rfl) (fun K hK => ?_) (fun K hK => ?_) (fun K hK => ?_)
   ·go_simp
    refine (HC3.out W hJ.1).mono ?_
    rintro e W2 ⟨B3, c3, rfl, hn, hbn⟩
    have hJ2 := hJ.call hbn
    refine hK.out _ _ (fun _ _ => HS.out _ hJ2.1) (anyP_at (L2 := #[true, true, true, true, true, true, true, false, false, false, false, false]) (by kernel_rfl) ?_)
    try simp only [pu]
    rw [← ho]
    exact G37 W2 g7 B1 c1 B2 c2 B3 c3 hJ2 (h1.call hbn) (h2.call hbn) (CPY.made hJ hn hbn)
   ·go_simp
    have hJ2 := hJ.add (gs' := [g7, W.heap.size]) (List.Perm.swap _ _ _)
    refine hK.out _ _ (fun _ _ => HS.out _ hJ2.1) (anyP_at (L2 := #[true, true, true, true, true, false, true, true, false, false, false, false]) (by kernel_rfl) ?_)
    try simp only [pu]
    rw [← ho]
    exact G278 _ g7 W.heap.size B1 c1 B2 c2 hJ2 (h1.add (List.Perm.swap _ _ _)) (h2.add (List.Perm.swap _ _ _))
   ·go_simp
    have hJ2 := hJ.add (gs' := [g7, W.heap.size]) (List.Perm.swap _ _ _)
    refine hK.out _ _ (fun _ _ => HS.out _ hJ2.1) (anyP_at (L2 := #[true, true, true, true, true, false, true, false, true, false, false, false]) (by kernel_rfl) ?_)
    try simp only [pu]
    rw [← ho]
    exact G279 _ g7 W.heap.size B1 c1 B2 c2 hJ2 (h1.add (List.Perm.swap _ _ _)) (h2.add (List.Perm.swap _ _ _))
  have G28 : ∀ (W : World) (g8 : Nat) (B1 : Option Addr) (c1 : Nat) (B2 : Option Addr) (c2 : Nat), JJ W0 [g8] W → CPY W0 [g8] W (.slice B1 was.length c1) was → CPY W0 [g8] W (.slice B2 a.length c2) a → anyP Tryz.prog .any o Qx (fun _ => true) SW 6 #[true, true, true, true, true, false, false, true, false, false, false, false] ⟨#[.agg #[.slice A1 was.length k1], .agg #[.slice A2 a.length k2], .agg #[.slice A3 b.length k3], .pointer (some ⟨w.heap.size, 0, none⟩), .pointer (some ⟨w.heap.size + 1, 0, none⟩), .pointer (some ⟨w.heap.size + 1 + 1, 0, none⟩), .bool false, undef, .pointer (some ⟨g8, 0, none⟩), undef, undef, undef, undef, undef, undef, undef, .agg #[.slice A1 was.length k1], .agg #[.slice B1 was.length c1], .agg #[.slice A2 a.length k2], .agg #[.slice B2 a.length c2], .agg #[.slice A3 b.length k3], undef, undef, undef, undef, undef, undef, undef, undef, undef, undef, undef, undef, undef, undef, undef, undef, undef, undef, undef, undef, undef, undef, undef, undef, undef, undef, undef, undef, undef, undef, undef, undef, undef, undef, undef, undef, undef, undef, undef, undef, undef, undef, undef, undef, undef, undef, undef, undef, undef, undef, undef, undef, undef, undef, undef, undef, undef], []⟩ W := by
   intro W g8 B1 c1 B2 c2 hJ h1 h2
   rw [ho]
   refine lateP_three (i := 5) (j := 6) (k := 8) rfl rfl rfl (by kernel_rfl) (fun K hK => ?_) (fun K hK => ?_) (fun K hK => ?_)
   ·go_simp
    refine (HC3.out W hJ.1).mono ?_
    rintro e W2 ⟨B3, c3, rfl, hn, hbn⟩
    have hJ2 := hJ.call hbn
    refine hK.out _ _ (fun _ _ => HS.out _ hJ2.1) (anyP_at (L2 := #[true, true, true, true, true, true, false, true, false, false, false, false]) (by kernel_rfl) ?_)
    try simp only [pu]
    rw [← ho]
    exact G38 W2 g8 B1 c1 B2 c2 B3 c3 hJ2 (h1.call hbn) (h2.call hbn) (CPY.made hJ hn hbn)
   ·go_simp
    have hJ2 := hJ.add (gs' := [W.heap.size, g8]) (List.Perm.refl _)
    refine hK.out _ _ (fun _ _ => HS.out _ hJ2.1) (anyP_at (L2 := #[true, true, true, true, true, false, true, true, false, false, false, false]) (by kernel_rfl) ?_)
    try simp only [pu]
    rw [← ho]
    exact G278 _ W.heap.size g8 B1 c1 B2 c2 hJ2 (h1.add (List.Perm.refl _)) (h2.add (List.Perm.refl _))
   ·go_simp
    have hJ2 := hJ.add (gs' := [g8, W.heap.size]) (List.Perm.swap _ _ _)
    refine hK.out _ _ (fun _ _ => HS.out _ hJ2.1) (anyP_at (L2 := #[true, true, true, true, true, false, false, true, true, false, false, false]) (by kernel_rfl) ?_)
    try simp only [pu]
    rw [← ho]
    exact G289 _ g8 W.heap.size B1 c1 B2 c2 hJ2 (h1.add (List.Perm.swap _ _ _)) (h2.add (List.Perm.swap _ _ _))
  have G29 : ∀ (W : World) (g9 : Nat) (B1 : Option Addr) (c1 : Nat) (B2 : Option Addr) (c2 : Nat), JJ W0 [g9] W → CPY W0 [g9] W (.slice B1 was.length c1) was → CPY W0 [g9] W (.slice B2 a.length c2) a → anyP Tryz.prog .any o Qx (fun _ => true) SW 6 #[true, true, true, true, true, false, false, false, true, false, false, false] ⟨#[.agg #[.slice A1 was.length k1], .agg #[.slice A2 a.length k2], .agg #[.slice A3 b.length k3], .pointer (some ⟨w.heap.size, 0, none⟩), .pointer (some ⟨w.heap.size + 1, 0, none⟩), .pointer (some ⟨w.heap.size + 1 + 1, 0, none⟩), .bool false, undef, undef, .pointer (some ⟨g9, 0, none⟩), undef, undef, undef, undef, undef, undef, .agg #[.slice A1 was.length k1], .agg #[.slice B1 was.length c1], .agg #[.slice A2 a.length k2], .agg #[.slice B2 a.length c2], .agg #[.slice A3 b.length k3], undef, undef, undef, undef, undef, undef, undef, undef, undef, undef, undef, undef, undef, undef, undef, undef, undef, undef, undef, undef, undef, undef, undef, undef, undef, undef, undef, undef, undef, undef, undef, undef, undef, undef, undef, undef, undef, undef, undef, undef, undef, undef, undef, undef, undef, undef, undef, undef, undef, undef, undef, undef, undef, undef, undef, undef, undef], []⟩ W := by
   intro W g9 B1 c1 B2 c2 hJ h1 h2
   rw [ho]
   refine lateP_three (i := 5) (j := 6) (k := 7) rfl rfl rfl (by kernel_rfl) (fun K hK => ?_) (fun K hK => ?_) (fun K hK => ?_)
   ·go_simp
    refine (HC3.out W hJ.1).mono ?_
    rintro e W2 ⟨B3, c3, rfl, hn, hbn⟩
    have hJ2 := hJ.call hbn
    refine hK.out _ _ (fun _ _ => HS.out _ hJ2.1) (anyP_at (L2 := #[true, true, true, true, true, true, false, false, true, false, false, false]) (by kernel_rfl) ?_)
    try simp only [pu]
    rw [← ho]
    exact G39 W2 g9 B1 c1 B2 c2 B3 c3 hJ2 (h1.call hbn) (h2.call hbn) (CPY.made hJ hn hbn)
   ·go_simp
    have hJ2 := hJ.add (gs' := [W.heap.size, g9]) (List.Perm.refl _)
    refine hK.out _ _ (fun _ _ => HS.out _ hJ2.1) (anyP_at (L2 := #[true, true, true, true, true, false, true, false, true, false, false, false]) (by kernel_rfl) ?_)
    try simp only [pu]
    rw [← ho]
    exact G279 _ W.heap.size g9 B1 c1 B2 c2 hJ2 (h1.add (List.Perm.refl _)) (h2.add (List.Perm.refl _))
   ·go_simp
    have hJ2 := hJ.add (gs' := [W.heap.size, g9]) (List.Perm.refl _)
    refine hK.out _ _ (fun _ _ => HS.out _ hJ2.1) (anyP_at (L2 := #[true, true, true, true, true, false, false, true, true, false, false, false]) (by kernel_rfl) ?_)
    try simp only [pu]
    rw [← ho]
    exact G289 _ W.heap.size g9 B1 c1 B2 c2 hJ2 (h1.add (List.Perm.refl _)) (h2.add (List.Perm.refl _))
  have G3 : ∀ (W : World) (B1 : Option Addr) (c1 : Nat) (B2 : Option Addr) (c2 : Nat) (B3 : Option Addr) (c3 : Nat), JJ W0 [] W → CPY W0 [] W (.slice B1 was.length c1) was → CPY W0 [] W (.slice B2 a.length c2) a → CPY W0 [] W (.slice B3 b.length c3) b → anyP Tryz.prog .any o Qx (fun _ => true) SW 6 #[true, true, true, true, true, true, false, false, false, false, false, false] ⟨#[.agg #[.slice A1 was.length k1], .agg #[.slice A2 a.length k2], .agg #[.slice A3 b.length k3], .pointer (some ⟨w.heap.size, 0, none⟩), .pointer (some ⟨w.heap.size + 1, 0, none⟩), .pointer (some ⟨w.heap.size + 1 + 1, 0, none⟩), .bool false, undef, undef, undef, undef, undef, undef, undef, undef, undef, .agg #[.slice A1 was.length k1], .agg #[.slice B1 was.length c1], .agg #[.slice A2 a.length k2], .agg #[.slice B2 a.length c2], .agg #[.slice A3 b.length k3], .agg #[.slice B3 b.length c3], undef, undef, undef, undef, undef, undef, undef, undef, undef, undef, undef, undef, undef, undef, undef, undef, undef, undef, undef, undef, undef, undef, undef, undef, undef, undef, undef, undef, undef, undef, undef, undef, undef, undef, undef, undef, undef, undef, undef, undef, undef, undef, undef, undef, undef, undef, undef, undef, undef, undef, undef, undef, undef, undef, undef, undef], []⟩ W := by
   intro W B1 c1 B2 c2 B3 c3 hJ h1 h2 h3
   rw [ho]
   refine lateP_three (i := 6) (j := 7) (k := 8) rfl rfl rfl (by kernel_rfl) (fun K hK => ?_) (fun K hK => ?_) (fun K hK => ?_)
   ·go_simp
    have hJ2 := hJ.add (gs' := [W.heap.size]) (List.Perm.refl _)
    refine hK.out _ _ (fun _ _ => HS.out _ hJ2.1) (anyP_at (L2 := #[true, true, true, true, true, true, true, false, false, false, false, false]) (by kernel_rfl) ?_)
    try simp only [pu]
    rw [← ho]
    exact G37 _ W.heap.size B1 c1 B2 c2 B3 c3 hJ2 (h1.add (List.Perm.refl _)) (h2.add (List.Perm.refl _)) (h3.add (List.Perm.refl _))
   ·go_simp
    have hJ2 := hJ.add (gs' := [W.heap.size]) (List.Perm.refl _)
    refine hK.out _ _ (fun _ _ => HS.out _ hJ2.1) (anyP_at (L2 := #[true, true, true, true, true, true, false, true, false, false, false, false]) (by kernel_rfl) ?_)
    try simp only [pu]
    rw [← ho]
    exact G38 _ W.heap.size B1 c1 B2 c2 B3 c3 hJ2 (h1.add (List.Perm.refl _)) (h2.add (List.Perm.refl _)) (h3.add (List.Perm.refl _))
   ·go_simp
    have hJ2 := hJ.add (gs' := [W.heap.size]) (List.Perm.refl _)
    refine hK.out _ _ (fun _ _ => HS.out _ hJ2.1) (anyP_at (L2 := #[true, true, true, true, true, true, false, false, true, false, false, false]) (by kernel_rfl) ?_)
    try simp only [pu]
    rw [← ho]
    exact G39 _ W.heap.size B1 c1 B2 c2 B3 c3 hJ2 (h1.add (List.Perm.refl _)) (h2.add (List.Perm.refl _)) (h3.add (List.Perm.refl _))
  have G078 : ∀ (W : World) (g7 g8 : Nat), JJ W0 [g7, g8] W → anyP Tryz.prog .any o Qx (fun _ => true) SW 7 #[true, false, true, false, true, false, true, true, false, false, false, false] ⟨#[.agg #[.slice A1 was.length k1], .agg #[.slice A2 a.length k2], .agg #[.slice A3 b.length k3], .pointer (some ⟨w.heap.size, 0, none⟩), .pointer (some ⟨w.heap.size + 1, 0, none⟩), .pointer (some ⟨w.heap.size + 1 + 1, 0, none⟩), .bool false, .pointer (some ⟨g7, 0, none⟩), .pointer (some ⟨g8, 0, none⟩), undef, undef, undef, undef, undef, undef, undef, .agg #[.slice A1 was.length k1], undef, .agg #[.slice A2 a.length k2], undef, .agg #[.slice A3 b.length k3], undef, undef, undef, undef, undef, undef, undef, undef, undef, undef, undef, undef, undef, undef, undef, undef, undef, undef, undef, undef, undef, undef, undef, undef, undef, undef, undef, undef, undef, undef, undef, undef, undef, undef, undef, undef, undef, undef, undef, undef, undef, undef, undef, undef, undef, undef, undef, undef, undef, undef, undef, undef, undef, undef, undef, undef, undef], []⟩ W := by
   intro W g7 g8 hJ
   rw [ho]
   refine lateP_two (i := 1) (j := 8) rfl rfl (by kernel_rfl) (fun K hK => ?_) (fun K hK => ?_)
   ·go_simp
    refine (HC1.out W hJ.1).mono ?_
    rintro e W2 ⟨B1, c1, rfl, hn, hbn⟩
    have hJ2 := hJ.call hbn
    refine hK.out _ _ (fun _ _ => HS.out _ hJ2.1) (anyP_at (L2 := #[true, true, true, false, true, false, true, true, false, false, false, false]) (by kernel_rfl) ?_)
    try simp only [pu]
    rw [← ho]
    exact G178 W2 g7 g8 B1 c1 hJ2 (CPY.made hJ hn hbn)
   ·go_simp
    have hJ2 := hJ.add (gs' := [g7, g8, W.heap.size]) ((List.perm_append_comm (l₁ := [g7, g8]) (l₂ := [W.heap.size])))
    refine hK.out _ _ (fun _ _ => HS.out _ hJ2.1) (anyP_at (L2 := #[true, false, true, false, true, false, true, true, true, false, false, false]) (by kernel_rfl) ?_)
    try simp only [pu]
    rw [← ho]
    exact G0789 _ g7 g8 W.heap.size hJ2
  have G079 : ∀ (W : World) (g7 g9 : Nat), JJ W0 [g7, g9] W → anyP Tryz.prog .any o Qx (fun _ => true) SW 7 #[true, false, true, false, true, false, true, false, true, false, false, false] ⟨#[.agg #[.slice A1 was.length k1], .agg #[.slice A2 a.length k2], .agg #[.slice A3 b.length k3], .pointer (some ⟨w.heap.size, 0, none⟩), .pointer (some ⟨w.heap.size + 1, 0, none⟩), .pointer (some ⟨w.heap.size + 1 + 1, 0, none⟩), .bool false, .pointer (some ⟨g7, 0, none⟩), undef, .pointer (some ⟨g9, 0, none⟩), undef, undef, undef, undef, undef, undef, .agg #[.slice A1 was.length k1], undef, .agg #[.slice A2 a.length k2], undef, .agg #[.slice A3 b.length k3], undef, undef, undef, undef, undef, undef, undef, undef, undef, undef, undef, undef, undef, undef, undef, undef, undef, undef, undef, undef, undef, undef, undef, undef, undef, undef, undef, undef, undef, undef, undef, undef, undef, undef, undef, undef, undef, undef, undef, undef, undef, undef, undef, undef, undef, undef, undef, undef, undef, undef, undef, undef, undef, undef, undef, undef, undef], []⟩ W := by
   intro W g7 g9 hJ
   rw [ho]
   refine lateP_two (i := 1) (j := 7) rfl rfl (by kernel_rfl) (fun K hK => ?_) (fun K hK => ?_)
   ·go_simp
    refine (HC1.out W hJ.1).mono ?_
    rintro e W2 ⟨B1, c1, rfl, hn, hbn⟩
    have hJ2 := hJ.call hbn
    refine hK.out _ _ (fun _ _ => HS.out _ hJ2.1) (anyP_at (L2 := #[true, true, true, false, true, false, true, false, true, false, false, false]) (by kernel_rfl) ?_)
    try simp only [pu]
    rw [← ho]
    exact G179 W2 g7 g9 B1 c1 hJ2 (CPY.made hJ hn hbn)
   ·go_simp
    have hJ2 := hJ.add (gs' := [g7, W.heap.size, g9]) (List.Perm.swap _ _ _)
    refine hK.out _ _ (fun _ _ => HS.out _ hJ2.1) (anyP_at (L2 := #[true, false, true, false, true, false, true, true, true, false, false, false]) (by kernel_rfl) ?_)
    try simp only [pu]
    rw [← ho]
    exact G0789 _ g7 W.heap.size g9 hJ2
  have G089 : ∀ (W : World) (g8 g9 : Nat), JJ W0 [g8, g9] W → anyP Tryz.prog .any o Qx (fun _ => true) SW 7 #[true, false, true, false, true, false, false, true, true, false, false, false] ⟨#[.agg #[.slice A1 was.length k1], .agg #[.slice A2 a.length k2], .agg #[.slice A3 b.length k3], .pointer (some ⟨w.heap.size, 0, none⟩), .pointer (some ⟨w.heap.size + 1, 0, none⟩), .pointer (some ⟨w.heap.size + 1 + 1, 0, none⟩), .bool false, undef, .pointer (some ⟨g8, 0, none⟩), .pointer (some ⟨g9, 0, none⟩), undef, undef, undef, undef, undef, undef, .agg #[.slice A1 was.length k1], undef, .agg #[.slice A2 a.length k2], undef, .agg #[.slice A3 b.length k3], undef, undef, undef, undef, undef, undef, undef, undef, undef, undef, undef, undef, undef, undef, undef, undef, undef, undef, undef, undef, undef, undef, undef, undef, undef, undef, undef, undef, undef, undef, undef, undef, undef, undef, undef, undef, undef, undef, undef, undef, undef, undef, undef, undef, undef, undef, undef, undef, undef, undef, undef, undef, undef, undef, undef, undef, undef], []⟩ W := by
   intro W g8 g9 hJ
   rw [ho]
   refine lateP_two (i := 1) (j := 6) rfl rfl (by kernel_rfl) (fun K hK => ?_) (fun K hK => ?_)
   ·go_simp
    refine (HC1.out W hJ.1).mono ?_
    rintro e W2 ⟨B1, c1, rfl, hn, hbn⟩
    have hJ2 := hJ.call hbn
    refine hK.out _ _ (fun _ _ => HS.out _ hJ2.1) (anyP_at (L2 := #[true, true, true, false, true, false, false, true, true, false, false, false]) (by kernel_rfl) ?_)
    try simp only [pu]
    rw [← ho]
    exact G189 W2 g8 g9 B1 c1 hJ2 (CPY.made hJ hn hbn)
   ·go_simp
    have hJ2 := hJ.add (gs' := [W.heap.size, g8, g9]) (List.Perm.refl _)
    refine hK.out _ _ (fun _ _ => HS.out _ hJ2.1) (anyP_at (L2 := #[true, false, true, false, true, false, true, true, true, false, false, false]) (by kernel_rfl) ?_)
    try simp only [pu]
    rw [← ho]
    exact G0789 _ W.heap.size g8 g9 hJ2
  have G17 : ∀ (W : World) (g7 : Nat) (B1 : Option Addr) (c1 : Nat), JJ W0 [g7] W → CPY W0 [g7] W (.slice B1 was.length c1) was → anyP Tryz.prog .any o Qx (fun _ => true) SW 7 #[true, true, true, false, true, false, true, false, false, false, false, false] ⟨#[.agg #[.slice A1 was.length k1], .agg #[.slice A2 a.length k2], .agg #[.slice A3 b.length k3], .pointer (some ⟨w.heap.size, 0, none⟩), .pointer (some ⟨w.heap.size + 1, 0, none⟩), .pointer (some ⟨w.heap.size + 1 + 1, 0, none⟩), .bool false, .pointer (some ⟨g7, 0, none⟩), undef, undef, undef, undef, undef, undef, undef, undef, .agg #[.slice A1 was.length k1], .agg #[.slice B1 was.length c1], .agg #[.slice A2 a.length k2], undef, .agg #[.slice A3 b.length k3], undef, undef, undef, undef, undef, undef, undef, undef, undef, undef, undef, undef, undef, undef, undef, undef, undef, undef, undef, undef, undef, undef, undef, undef, undef, undef, undef, undef, undef, undef, undef, undef, undef, undef, undef, undef, undef, undef, undef, undef, undef, undef, undef, undef, undef, undef, undef, undef, undef, undef, undef, undef, undef, undef, undef, undef, undef], []⟩ W := by
   intro W g7 B1 c1 hJ h1
   rw [ho]
   refine lateP_three (i := 3) (j := 7) (k := 8) rfl rfl rfl (by kernel_rfl) (fun K hK => ?_) (fun K hK => ?_) (fun K hK => ?_)
   ·go_simp
    refine (HC2.out W hJ.1).mono ?_
    rintro e W2 ⟨B2, c2, rfl, hn, hbn⟩
    have hJ2 := hJ.call hbn
    refine hK.out _ _ (fun _ _ => HS.out _ hJ2.1) (anyP_at (L2 := #[true, true, true, true, true, false, true, false, false, false, false, false]) (by kernel_rfl) ?_)
    try simp only [pu]
    rw [← ho]
    exact G27 W2 g7 B1 c1 B2 c2 hJ2 (h1.call hbn) (CPY.made hJ hn hbn)
   ·go_simp
    have hJ2 := hJ.add (gs' := [g7, W.heap.size]) (List.Perm.swap _ _ _)
    refine hK.out _ _ (fun _ _ => HS.out _ hJ2.1) (anyP_at (L2 := #[true, true, true, false, true, false, true, true, false, false, false, false]) (by kernel_rfl) ?_)
    try simp only [pu]
    rw [← ho]
    exact G178 _ g7 W.heap.size B1 c1 hJ2 (h1.add (List.Perm.swap _ _ _))
   ·go_simp
    have hJ2 := hJ.add (gs' := [g7, W.heap.size]) (List.Perm.swap _ _ _)
    refine hK.out _ _ (fun _ _ => HS.out _ hJ2.1) (anyP_at (L2 := #[true, true, true, false, true, false, true, false, true, false, false, false]) (by kernel_rfl) ?_)
    try simp only [pu]
    rw [← ho]
    exact G179 _ g7 W.heap.size B1 c1 hJ2 (h1.add (List.Perm.swap _ _ _))
  have G18 : ∀ (W : World) (g8 : Nat) (B1 : Option Addr) (c1 : Nat), JJ W0 [g8] W → CPY W0 [g8] W (.slice B1 was.length c1) was → anyP Tryz.prog .any o Qx (fun _ => true) SW 7 #[true, true, true, false, true, false, false, true, false, false, false, false] ⟨#[.agg #[.slice A1 was.length k1], .agg #[.slice A2 a.length k2], .agg #[.slice A3 b.length k3], .pointer (some ⟨w.heap.size, 0, none⟩), .pointer (some ⟨w.heap.size + 1, 0, none⟩), .pointer (some ⟨w.heap.size + 1 + 1, 0, none⟩), .bool false, undef, .pointer (some ⟨g8, 0, none⟩), undef, undef, undef, undef, undef, undef, undef, .agg #[.slice A1 was.length k1], .agg #[.slice B1 was.length c1], .agg #[.slice A2 a.length k2], undef, .agg #[.slice A3 b.length k3], undef, undef, undef, undef, undef, undef, undef, undef, undef, undef, undef, undef, undef, undef, undef, undef, undef, undef, undef, undef, undef, undef, undef, undef, undef, undef, undef, undef, undef, undef, undef, undef, undef, undef, undef, undef, undef, undef, undef, undef, undef, undef, undef, undef, undef, undef, undef, undef, undef, undef, undef, undef, undef, undef, undef, undef, undef], []⟩ W := by
   intro W g8 B1 c1 hJ h1
   rw [ho]
   refine lateP_three (i := 3) (j := 6) (k := 8) rfl rfl rfl (by kernel_rfl) (fun K hK => ?_) (fun K hK => ?_) (fun K hK => ?_)
   ·go_simp
    refine (HC2.out W hJ.1).mono ?_
    rintro e W2 ⟨B2, c2, rfl, hn, hbn⟩
    have hJ2 := hJ.call hbn
    refine hK.out _ _ (fun _ _ => HS.out _ hJ2.1) (anyP_at (L2 := #[true, true, true, true, true, false, false, true, false, false, false, false]) (by kernel_rfl) ?_)
    try simp only [pu]
    rw [← ho]
    exact G28 W2 g8 B1 c1 B2 c2 hJ2 (h1.call hbn) (CPY.made hJ hn hbn)
   ·go_simp
    have hJ2 := hJ.add (gs' := [W.heap.size, g8]) (List.Perm.refl _)
    refine hK.out _ _ (fun _ _ => HS.out _ hJ2.1) (anyP_at (L2 := #[true, true, true, false, true, false, true, true, false, false, false, false]) (by kernel_rfl) ?_)
    try simp only [pu]
    rw [← ho]
    exact G178 _ W.heap.size g8 B1 c1 hJ2 (h1.add (List.Perm.refl _))
   ·go_simp
    have hJ2 := hJ.add (gs' := [g8, W.heap.size]) (List.Perm.swap _ _ _)
    refine hK.out _ _ (fun _ _ => HS.out _ hJ2.1) (anyP_at (L2 := #[true, true, true, false, true, false, false, true, true, false, false, false]) (by kernel_rfl) ?_)
    try simp only [pu]
    rw [← ho]
    exact G189 _ g8 W.heap.size B1 c1 hJ2 (h1.add (List.Perm.swap _ _ _))
  have G19 : ∀ (W : World) (g9 : Nat) (B1 : Option Addr) (c1 : Nat), JJ W0 [g9] W → CPY W0 [g9] W (.slice B1 was.length c1) was → anyP Tryz.prog .any o Qx (fun _ => true) SW 7 #[true, true, true, false, true, false, false, false, true, false, false, false] ⟨#[.agg #[.slice A1 was.length k1], .agg #[.slice A2 a.length k2], .agg #[.slice A3 b.length k3], .pointer (some ⟨w.heap.size, 0, none⟩), .pointer (some ⟨w.heap.size + 1, 0, none⟩), .pointer (some ⟨w.heap.size + 1 + 1, 0, none⟩), .bool false, undef, undef, .pointer (some ⟨g9, 0, none⟩), undef, undef, undef, undef, undef, undef, .agg #[.slice A1 was.length k1], .agg #[.slice B1 was.length c1], .agg #[.slice A2 a.length k2], undef, .agg #[.slice A3 b.length k3], undef, undef, undef, undef, undef, undef, undef, undef, undef, undef, undef, undef, undef, undef, undef, undef, undef, undef, undef, undef, undef, undef, undef, undef, undef, undef, undef, undef, undef, undef, undef, undef, undef, undef, undef, undef, undef, undef, undef, undef, undef, undef, undef, undef, undef, undef, undef, undef, undef, undef, undef, undef, undef, undef, undef, undef, undef], []⟩ W := by
   intro W g9 B1 c1 hJ h1
   rw [ho]
   refine lateP_three (i := 3) (j := 6) (k := 7) rfl rfl rfl (by kernel_rfl) (fun K hK => ?_) (fun K hK => ?_) (fun K hK => ?_)
   ·go_simp
    refine (HC2.out W hJ.1).mono ?_
    rintro e W2 ⟨B2, c2, rfl, hn, hbn⟩
    have hJ2 := hJ.call hbn
    refine hK.out _ _ (fun _ _ => HS.out _ hJ2.1) (anyP_at (L2 := #[true, true, true, true, true, false, false, false, true, false, false, false]) (by kernel_rfl) ?_)
    try simp only [pu]
    rw [← ho]
    exact G29 W2 g9 B1 c1 B2 c2 hJ2 (h1.call hbn) (CPY.made hJ hn hbn)
   ·go_simp
    have hJ2 := hJ.add (gs' := [W.heap.size, g9]) (List.Perm.refl _)
    refine hK.out _ _ (fun _ _ => HS.out _ hJ2.1) (anyP_at (L2 := #[true, true, true, false, true, false, true, false, true, false, false, false]) (by kernel_rfl) ?_)
    try simp only [pu]
    rw [← ho]
    exact G179 _ W.heap.size g9 B1 c1 hJ2 (h1.add (List.Perm.refl _))
   ·go_simp
    have hJ2 := hJ.add (gs' := [W.heap.size, g9]) (List.Perm.refl _)
    refine hK.out _ _ (fun _ _ => HS.out _ hJ2.1) (anyP_at (L2 := #[true, true, true, false, true, false, false, true, true, false, false, false]) (by kernel_rfl) ?_)
    try simp only [pu]
    rw [← ho]
    exact G189 _ W.heap.size g9 B1 c1 hJ2 (h1.add (List.Perm.refl _))
  have G2 : ∀ (W : World) (B1 : Option Addr) (c1 : Nat) (B2 : Option Addr) (c2 : Nat), JJ W0 [] W → CPY W0 [] W (.slice B1 was.length c1) was → CPY W0 [] W (.slice B2 a.length c2) a → anyP Tryz.prog .any o Qx (fun _ => true) SW 7 #[true, true, true, true, true, false, false, false, false, false, false, false] ⟨#[.agg #[.slice A1 was.length k1], .agg #[.slice A2 a.length k2], .agg #[.slice A3 b.length k3], .pointer (some ⟨w.heap.size, 0, none⟩), .pointer (some ⟨w.heap.size + 1, 0, none⟩), .pointer (some ⟨w.heap.size + 1 + 1, 0, none⟩), .bool false, undef, undef, undef, undef, undef, undef, undef, undef, undef, .agg #[.slice A1 was.length k1], .agg #[.slice B1 was.length c1], .agg #[.slice A2 a.length k2], .agg #[.slice B2 a.length c2], .agg #[.slice A3 b.length k3], undef, undef, undef, undef, undef, undef, undef, undef, undef, undef, undef, undef, undef, undef, undef, undef, undef, undef, undef, undef, undef, undef, undef, undef, undef, undef, undef, undef, undef, undef, undef, undef, undef, undef, undef, undef, undef, undef, undef, undef, undef, undef, undef, undef, undef, undef, undef, undef, undef, undef, undef, undef, undef, undef, undef, undef, undef], []⟩ W := by
   intro W B1 c1 B2 c2 hJ h1 h2
   rw [ho]
   refine lateP_four (i := 5) (j := 6) (k := 7) (l := 8) rfl rfl rfl rfl (by kernel_rfl) (fun K hK => ?_) (fun K hK => ?_) (fun K hK => ?_) (fun K hK => ?_)
   ·go_simp
    refine (HC3.out W hJ.1).mono ?_
    rintro e W2 ⟨B3, c3, rfl, hn, hbn⟩
    have hJ2 := hJ.call hbn
    refine hK.out _ _ (fun _ _ => HS.out _ hJ2.1) (anyP_at (L2 := #[true, true, true, true, true, true, false, false, false, false, false, false]) (by kernel_rfl) ?_)
    try simp only [pu]
    rw [← ho]
    exact G3 W2 B1 c1 B2 c2 B3 c3 hJ2 (h1.call hbn) (h2.call hbn) (CPY.made hJ hn hbn)
   ·go_simp
    have hJ2 := hJ.add (gs' := [W.heap.size]) (List.Perm.refl _)
    refine hK.out _ _ (fun _ _ => HS.out _ hJ2.1) (anyP_at (L2 := #[true, true, true, true, true, false, true, false, false, false, false, false]) (by kernel_rfl) ?_)
    try simp only [pu]
    rw [← ho]
    exact G27 _ W.heap.size B1 c1 B2 c2 hJ2 (h1.add (List.Perm.refl _)) (h2.add (List.Perm.refl _))
   ·go_simp
    have hJ2 := hJ.add (gs' := [W.heap.size]) (List.Perm.refl _)
    refine hK.out _ _ (fun _ _ => HS.out _ hJ2.1) (anyP_at (L2 := #[true, true, true, true, true, false, false, true, false, false, false, false]) (by kernel_rfl) ?_)
    try simp only [pu]
    rw [← ho]
    exact G28 _ W.heap.size B1 c1 B2 c2 hJ2 (h1.add (List.Perm.refl _)) (h2.add (List.Perm.refl _))
   ·go_simp
    have hJ2 := hJ.add (gs' := [W.heap.size]) (List.Perm.refl _)
    refine hK.out _ _ (fun _ _ => HS.out _ hJ2.1) (anyP_at (L2 := #[true, true, true, true, true, false, false, false, true, false, false, false]) (by kernel_rfl) ?_)
    try simp only [pu]
    rw [← ho]
    exact G29 _ W.heap.size B1 c1 B2 c2 hJ2 (h1.add (List.Perm.refl _)) (h2.add (List.Perm.refl _))
  have G07 : ∀ (W : World) (g7 : Nat), JJ W0 [g7] W → anyP Tryz.prog .any o Qx (fun _ => true) SW 8 #[true, false, true, false, true, false, true, false, false, false, false, false] ⟨#[.agg #[.slice A1 was.length k1], .agg #[.slice A2 a.length k2], .agg #[.slice A3 b.length k3], .pointer (some ⟨w.heap.size, 0, none⟩), .pointer (some ⟨w.heap.size + 1, 0, none⟩), .pointer (some ⟨w.heap.size + 1 + 1, 0, none⟩), .bool false, .pointer (some ⟨g7, 0, none⟩), undef, undef, undef, undef, undef, undef, undef, undef, .agg #[.slice A1 was.length k1], undef, .agg #[.slice A2 a.length k2], undef, .agg #[.slice A3 b.length k3], undef, undef, undef, undef, undef, undef, undef, undef, undef, undef, undef, undef, undef, undef, undef, undef, undef, undef, undef, undef, undef, undef, undef, undef, undef, undef, undef, undef, undef, undef, undef, undef, undef, undef, undef, undef, undef, undef, undef, undef, undef, undef, undef, undef, undef, undef, undef, undef, undef, undef, undef, undef, undef, undef, undef, undef, undef], []⟩ W := by
   intro W g7 hJ
   rw [ho]
   refine lateP_three (i := 1) (j := 7) (k := 8) rfl rfl rfl (by kernel_rfl) (fun K hK => ?_) (fun K hK => ?_) (fun K hK => ?_)
   ·go_simp
    refine (HC1.out W hJ.1).mono ?_
    rintro e W2 ⟨B1, c1, rfl, hn, hbn⟩
    have hJ2 := hJ.call hbn
    refine hK.out _ _ (fun _ _ => HS.out _ hJ2.1) (anyP_at (L2 := #[true, true, true, false, true, false, true, false, false, false, false, false]) (by kernel_rfl) ?_)
    try simp only [pu]
    rw [← ho]
    exact G17 W2 g7 B1 c1 hJ2 (CPY.made hJ hn hbn)
   ·go_simp
    have hJ2 := hJ.add (gs' := [g7, W.heap.size]) (List.Perm.swap _ _ _)
    refine hK.out _ _ (fun _ _ => HS.out _ hJ2.1) (anyP_at (L2 := #[true, false, true, false, true, false, true, true, false, false, false, false]) (by kernel_rfl) ?_)
    try simp only [pu]
    rw [← ho]
    exact G078 _ g7 W.heap.size hJ2
   ·go_simp
    have hJ2 := hJ.add (gs' := [g7, W.heap.size]) (List.Perm.swap _ _ _)
    refine hK.out _ _ (fun _ _ => HS.out _ hJ2.1) (anyP_at (L2 := #[true, false, true, false, true, false, true, false, true, false, false, false]) (by kernel_rfl) ?_)
    try simp only [pu]
    rw [← ho]
    exact G079 _ g7 W.heap.size hJ2
  have G08 : ∀ (W : World) (g8 : Nat), JJ W0 [g8] W → anyP Tryz.prog .any o Qx (fun _ => true) SW 8 #[true, false, true, false, true, false, false, true, false, false, false, false] ⟨#[.agg #[.slice A1 was.length k1], .agg #[.slice A2 a.length k2], .agg #[.slice A3 b.length k3], .pointer (some ⟨w.heap.size, 0, none⟩), .pointer (some ⟨w.heap.size + 1, 0, none⟩), .pointer (some ⟨w.heap.size + 1 + 1, 0, none⟩), .bool false, undef, .pointer (some ⟨g8, 0, none⟩), undef, undef, undef, undef, undef, undef, undef, .agg #[.slice A1 was.length k1], undef, .agg #[.slice A2 a.length k2], undef, .agg #[.slice A3 b.length k3], undef, undef, undef, undef, undef, undef, undef, undef, undef, undef, undef, undef, undef, undef, undef, undef, undef, undef, undef, undef, undef, undef, undef, undef, undef, undef, undef, undef, undef, undef, undef, undef, undef, undef, undef, undef, undef, undef, undef, undef, undef, undef, undef, undef, undef, undef, undef, undef, undef, undef, undef, undef, undef, undef, undef, undef, undef], []⟩ W := by
   intro W g8 hJ
   rw [ho]
   refine lateP_three (i := 1) (j := 6) (k := 8) rfl rfl rfl (by kernel_rfl) (fun K hK => ?_) (fun K hK => ?_) (fun K hK => ?_)
   ·go_simp
    refine (HC1.out W hJ.1).mono ?_
    rintro e W2 ⟨B1, c1, rfl, hn, hbn⟩
    have hJ2 := hJ.call hbn
    refine hK.out _ _ (fun _ _ => HS.out _ hJ2.1) (anyP_at (L2 := #[true, true, true, false, true, false, false, true, false, false, false, false]) (by kernel_rfl) ?_)
    try simp only [pu]
    rw [← ho]
    exact G18 W2 g8 B1 c1 hJ2 (CPY.made hJ hn hbn)
   ·go_simp
    have hJ2 := hJ.add (gs' := [W.heap.size, g8]) (List.Perm.refl _)
    refine hK.out _ _ (fun _ _ => HS.out _ hJ2.1) (anyP_at (L2 := #[true, false, true, false, true, false, true, true, false, false, false, false]) (by kernel_rfl) ?_)
    try simp only [pu]
    rw [← ho]
    exact G078 _ W.heap.size g8 hJ2
   ·go_simp
    have hJ2 := hJ.add (gs' := [g8, W.heap.size]) (List.Perm.swap _ _ _)
    refine hK.out _ _ (fun _ _ => HS.out _ hJ2.1) (anyP_at (L2 := #[true, false, true, false, true, false, false, true, true, false, false, false]) (by kernel_rfl) ?_)
    try simp only [pu]
    rw [← ho]
    exact G089 _ g8 W.heap.size hJ2
  have G09 : ∀ (W : World) (g9 : Nat), JJ W0 [g9] W → anyP Tryz.prog .any o Qx (fun _ => true) SW 8 #[true, false, true, false, true, false, false, false, true, false, false, false] ⟨#[.agg #[.slice A1 was.length k1], .agg #[.slice A2 a.length k2], .agg #[.slice A3 b.length k3], .pointer (some ⟨w.heap.size, 0, none⟩), .pointer (some ⟨w.heap.size + 1, 0, none⟩), .pointer (some ⟨w.heap.size + 1 + 1, 0, none⟩), .bool false, undef, undef, .pointer (some ⟨g9, 0, none⟩), undef, undef, undef, undef, undef, undef, .agg #[.slice A1 was.length k1], undef, .agg #[.slice A2 a.length k2], undef, .agg #[.slice A3 b.length k3], undef, undef, undef, undef, undef, undef, undef, undef, undef, undef, undef, undef, undef, undef, undef, undef, undef, undef, undef, undef, undef, undef, undef, undef, undef, undef, undef, undef, undef, undef, undef, undef, undef, undef, undef, undef, undef, undef, undef, undef, undef, undef, undef, undef, undef, undef, undef, undef, undef, undef, undef, undef, undef, undef, undef, undef, undef], []⟩ W := by
   intro W g9 hJ
   rw [ho]
   refine lateP_three (i := 1) (j := 6) (k := 7) rfl rfl rfl (by kernel_rfl) (fun K hK => ?_) (fun K hK => ?_) (fun K hK => ?_)
   ·go_simp
    refine (HC1.out W hJ.1).mono ?_
    rintro e W2 ⟨B1, c1, rfl, hn, hbn⟩
    have hJ2 := hJ.call hbn
    refine hK.out _ _ (fun _ _ => HS.out _ hJ2.1) (anyP_at (L2 := #[true, true, true, false, true, false, false, false, true, false, false, false]) (by kernel_rfl) ?_)
    try simp only [pu]
    rw [← ho]
    exact G19 W2 g9 B1 c1 hJ2 (CPY.made hJ hn hbn)
   ·go_simp
    have hJ2 := hJ.add (gs' := [W.heap.size, g9]) (List.Perm.refl _)
    refine hK.out _ _ (fun _ _ => HS.out _ hJ2.1) (anyP_at (L2 := #[true, false, true, false, true, false, true, false, true, false, false, false]) (by kernel_rfl) ?_)
    try simp only [pu]
    rw [← ho]
    exact G079 _ W.heap.size g9 hJ2
   ·go_simp
    have hJ2 := hJ.add (gs' := [W.heap.size, g9]) (List.Perm.refl _)
    refine hK.out _ _ (fun _ _ => HS.out _ hJ2.1) (anyP_at (L2 := #[true, false, true, false, true, false, false, true, true, false, false, false]) (by kernel_rfl) ?_)
    try simp only [pu]
    rw [← ho]
    exact G089 _ W.heap.size g9 hJ2
  have G1 : ∀ (W : World) (B1 : Option Addr) (c1 : Nat), JJ W0 [] W → CPY W0 [] W (.slice B1 was.length c1) was → anyP Tryz.prog .any o Qx (fun _ => true) SW 8 #[true, true, true, false, true, false, false, false, false, false, false, false] ⟨#[.agg #[.slice A1 was.length k1], .agg #[.slice A2 a.length k2], .agg #[.slice A3 b.length k3], .pointer (some ⟨w.heap.size, 0, none⟩), .pointer (some ⟨w.heap.size + 1, 0, none⟩), .pointer (some ⟨w.heap.size + 1 + 1, 0, none⟩), .bool false, undef, undef, undef, undef, undef, undef, undef, undef, undef, .agg #[.slice A1 was.length k1], .agg #[.slice B1 was.length c1], .agg #[.slice A2 a.length k2], undef, .agg #[.slice A3 b.length k3], undef, undef, undef, undef, undef, undef, undef, undef, undef, undef, undef, undef, undef, undef, undef, undef, undef, undef, undef, undef, undef, undef, undef, undef, undef, undef, undef, undef, undef, undef, undef, undef, undef, undef, undef, undef, undef, undef, undef, undef, undef, undef, undef, undef, undef, undef, undef, undef, undef, undef, undef, undef, undef, undef, undef, undef, undef], []⟩ W := by
   intro W B1 c1 hJ h1
   rw [ho]
   refine lateP_four (i := 3) (j := 6) (k := 7) (l := 8) rfl rfl rfl rfl (by kernel_rfl) (fun K hK => ?_) (fun K hK => ?_) (fun K hK => ?_) (fun K hK => ?_)
   ·go_simp
    refine (HC2.out W hJ.1).mono ?_
    rintro e W2 ⟨B2, c2, rfl, hn, hbn⟩
    have hJ2 := hJ.call hbn
    refine hK.out _ _ (fun _ _ => HS.out _ hJ2.1) (anyP_at (L2 := #[true, true, true, true, true, false, false, false, false, false, false, false]) (by kernel_rfl) ?_)
    try simp only [pu]
    rw [← ho]
    exact G2 W2 B1 c1 B2 c2 hJ2 (h1.call hbn) (CPY.made hJ hn hbn)
   ·go_simp
    have hJ2 := hJ.add (gs' := [W.heap.size]) (List.Perm.refl _)
    refine hK.out _ _ (fun _ _ => HS.out _ hJ2.1) (anyP_at (L2 := #[true, true, true, false, true, false, true, false, false, false, false, false]) (by kernel_rfl) ?_)
    try simp only [pu]
    rw [← ho]
    exact G17 _ W.heap.size B1 c1 hJ2 (h1.add (List.Perm.refl _))
   ·go_simp
    have hJ2 := hJ.add (gs' := [W.heap.size]) (List.Perm.refl _)
    refine hK.out _ _ (fun _ _ => HS.out _ hJ2.1) (anyP_at (L2 := #[true, true, true, false, true, false, false, true, false, false, false, false]) (by kernel_rfl) ?_)
    try simp only [pu]
    rw [← ho]
    exact G18 _ W.heap.size B1 c1 hJ2 (h1.add (List.Perm.refl _))
   ·go_simp
    have hJ2 := hJ.add (gs' := [W.heap.size]) (List.Perm.refl _)
    refine hK.out _ _ (fun _ _ => HS.out _ hJ2.1) (anyP_at (L2 := #[true, true, true, false, true, false, false, false, true, false, false, false]) (by kernel_rfl) ?_)
    try simp only [pu]
    rw [← ho]
    exact G19 _ W.heap.size B1 c1 hJ2 (h1.add (List.Perm.refl _))
  have G0 : ∀ (W : World), JJ W0 [] W → anyP Tryz.prog .any o Qx (fun _ => true) SW 9 #[true, false, true, false, true, false, false, false, false, false, false, false] ⟨#[.agg #[.slice A1 was.length k1], .agg #[.slice A2 a.length k2], .agg #[.slice A3 b.length k3], .pointer (some ⟨w.heap.size, 0, none⟩), .pointer (some ⟨w.heap.size + 1, 0, none⟩), .pointer (some ⟨w.heap.size + 1 + 1, 0, none⟩), .bool false, undef, undef, undef, undef, undef, undef, undef, undef, undef, .agg #[.slice A1 was.length k1], undef, .agg #[.slice A2 a.length k2], undef, .agg #[.slice A3 b.length k3], undef, undef, undef, undef, undef, undef, undef, undef, undef, undef, undef, undef, undef, undef, undef, undef, undef, undef, undef, undef, undef, undef, undef, undef, undef, undef, undef, undef, undef, undef, undef, undef, undef, undef, undef, undef, undef, undef, undef, undef, undef, undef, undef, undef, undef, undef, undef, undef, undef, undef, undef, undef, undef, undef, undef, undef, undef], []⟩ W := by
   intro W hJ
   rw [ho]
   refine lateP_four (i := 1) (j := 6) (k := 7) (l := 8) rfl rfl rfl rfl (by kernel_rfl) (fun K hK => ?_) (fun K hK => ?_) (fun K hK => ?_) (fun K hK => ?_)
   ·go_simp
    refine (HC1.out W hJ.1).mono ?_
    rintro e W2 ⟨B1, c1, rfl, hn, hbn⟩
    have hJ2 := hJ.call hbn
    refine hK.out _ _ (fun _ _ => HS.out _ hJ2.1) (anyP_at (L2 := #[true, true, true, false, true, false, false, false, false, false, false, false]) (by kernel_rfl) ?_)
    try simp only [pu]
    rw [← ho]
    exact G1 W2 B1 c1 hJ2 (CPY.made hJ hn hbn)
   ·go_simp
    have hJ2 := hJ.add (gs' := [W.heap.size]) (List.Perm.refl _)
    refine hK.out _ _ (fun _ _ => HS.out _ hJ2.1) (anyP_at (L2 := #[true, false, true, false, true, false, true, false, false, false, false, false]) (by kernel_rfl) ?_)
    try simp only [pu]
    rw [← ho]
    exact G07 _ W.heap.size hJ2
   ·go_simp
    have hJ2 := hJ.add (gs' := [W.heap.size]) (List.Perm.refl _)
    refine hK.out _ _ (fun _ _ => HS.out _ hJ2.1) (anyP_at (L2 := #[true, false, true, false, true, false, false, true, false, false, false, false]) (by kernel_rfl) ?_)
    try simp only [pu]
    rw [← ho]
    exact G08 _ W.heap.size hJ2
   ·go_simp
    have hJ2 := hJ.add (gs' := [W.heap.size]) (List.Perm.refl _)
    refine hK.out _ _ (fun _ _ => HS.out _ hJ2.1) (anyP_at (L2 := #[true, false, true, false, true, false, false, false, true, false, false, false]) (by kernel_rfl) ?_)
    try simp only [pu]
    rw [← ho]
    exact G09 _ W.heap.size hJ2
  exact anyP_at (L2 := #[true, false, true, false, true, false, false, false, false, false, false, false]) (by kernel_rfl) (G0 Wb hJ0)
 case rest =>
 obtain ⟨g7, g8, g9, B1, c1, B2, c2, B3, c3, rfl, rfl, rfl, y7, y8, y9, r1, r2, r3, hB⟩ := hcut
 obtain ⟨V, hV⟩ : ∃ V, V = wc := ⟨_, rfl⟩
 subst hV
 have hG := below_via x4 hB x4.size
 have u1 := x1.below hB x1.lt
 have u2 := x2.below hB x2.lt
 have u3 := x3.below hB x3.lt
 have hmb := Lib.hid (books_any _ _ _ _ was a b V r1 r2 r3 (HW.out.below hG) HO.out.1 HO.out.2.1 HO.out.2.2)
 have hmr := Lib.hid (fun W' (h : Below w.heap.size w W') => mergeR_any S _ _ _ was a b W' ((RSl.fair RType.fair).below H1.out h) ((RSl.fair RType.fair).below H2.out h) ((RSl.fair RType.fair).below H3.out h) (HM.out.below h) HO.out.1 HO.out.2.1 HO.out.2.2 HSm.out.1 HSm.out.2.1 HSm.out.2.2)
 obtain ⟨R, hR⟩ : ∃ R, R = booksM was a b := ⟨_, rfl⟩
 rw [← hR] at hmb hmr
 obtain ⟨Rb, Rl, Rc⟩ := R
 have C1 := Lib.hid r1
 have C2 := Lib.hid r2
 have C3 := Lib.hid r3
 have c7 := y7.cell 0
 have c8 := y8.cell 0
 have c9 := y9.cell 0
 have l7 := y7.lt
 have l8 := y8.lt
 have l9 := y9.lt
 simp only [List.getElem?_cons_zero] at c7 c8 c9
 clear hR HC1 HC2 HC3 HS HUP HSm HO HM x1 x2 x3 x4 r1 r2 r3 hB
 go_wp2_with fail
 refine hmb.out.mono ?_
 rintro e V2 ⟨vo, vl, rfl, hro, hrl, hb2⟩
 obtain ⟨D1, d1, rfl, -⟩ := hro.form
 obtain ⟨D2, d2, rfl, -⟩ := hrl.form
 dsimp only at hro hrl ⊢
 have hG2 := below_via hG hb2 hG.size
 have y10 := Box.new V2 24 [.slice D1 Rb.length d1]
 have hb3 := hb2.alloc hb2.size (.cells #[.slice D1 Rb.length d1] 24)
 have hG3 := hG2.alloc hG2.size (.cells #[.slice D1 Rb.length d1] 24)
 have Q1 := Lib.hid (RBook.fair.keep hro (Keep.alloc _ V2 (.cells #[.slice D1 Rb.length d1] 24)))
 have Q2 := Lib.hid ((RSl.fair RFlaw.fair).keep hrl (Keep.alloc _ V2 (.cells #[.slice D1 Rb.length d1] 24)))
 clear c7 c8 c9 l7 l8 l9 hro hrl hb2 hG2 hmb hG
 go_upto_region 3 with fail
 generalize V2.heap.size = X10 at y10 ⊢
 generalize (World.alloc V2 _) = V3 at y10 hb3 hG3 Q1 Q2 ⊢
 have z1 := u1.below hb3 u1.lt
 have z2 := u2.below hb3 u2.lt
 have z3 := u3.below hb3 u3.lt
 have z7 := y7.below hb3 y7.lt
 have z8 := y8.below hb3 y8.lt
 have z9 := y9.below hb3 y9.lt
 have C1' := Lib.hid ((RSl.fair RType.fair).below C1.out hb3)
 have C2' := Lib.hid ((RSl.fair RType.fair).below C2.out hb3)
 have C3' := Lib.hid ((RSl.fair RType.fair).below C3.out hb3)
 have m1 := z1.cell 0
 have m2 := z2.cell 0
 have m3 := z3.cell 0
 have l1 := z1.lt
 have l2 := z2.lt
 have l3 := z3.lt
 simp only [List.getElem?_cons_zero] at m1 m2 m3
 clear u1 u2 u3 y7 y8 y9 C1 C2 C3 hb3
 go_wp2_with fail
 refine (hmr.out _ hG3).mono ?_
 rintro e V4 ⟨vo, vl, rfl, hro, hrl, hb4⟩
 obtain ⟨E1, e1, rfl, -⟩ := hro.form
 obtain ⟨E2, e2, rfl, -⟩ := hrl.form
 dsimp only at hro hrl ⊢
 have hG4 := below_via hG3 hb4 hG3.size
 have y13 := Box.new V4 24 [.slice E1 Rb.length e1]
 have hb5 := hb4.alloc hb4.size (.cells #[.slice E1 Rb.length e1] 24)
 have hG5 := hG4.alloc hG4.size (.cells #[.slice E1 Rb.length e1] 24)
 have Q3 := Lib.hid (RBook.fair.keep hro (Keep.alloc _ V4 (.cells #[.slice E1 Rb.length e1] 24)))
 have Q4 := Lib.hid ((RSl.fair RFlaw.fair).keep hrl (Keep.alloc _ V4 (.cells #[.slice E1 Rb.length e1] 24)))
 clear m1 m2 m3 l1 l2 l3 hro hrl hb4 hG4 hmr hG3
 go_upto_region 4 with fail
 generalize V4.heap.size = X13 at y13 ⊢
 generalize (World.alloc V4 _) = V5 at y13 hb5 hG5 Q3 Q4 ⊢
 have a10 := y10.below hb5 y10.lt
 have a1 := z1.below hb5 z1.lt
 have a2 := z2.below hb5 z2.lt
 have a3 := z3.below hb5 z3.lt
 have a7 := z7.below hb5 z7.lt
 have a8 := z8.below hb5 z8.lt
 have a9 := z9.below hb5 z9.lt
 obtain ⟨dab, hdab⟩ : ∃ d, d = decide (a = b) := ⟨_, rfl⟩
 have hdd : (dab == dab) = true := by simp
 have K1 := Lib.hid (fun W' (h : Below V5.heap.size V5 W') => sameBook_anyR _ _ _ _ Rb W' ((RSl.fair RType.fair).below ((RSl.fair RType.fair).below Q1.out hb5) h) ((RSl.fair RType.fair).below Q3.out h))
 have K2 := Lib.hid (fun W' (h : Below V5.heap.size V5 W') => sameFlaws_any _ _ _ _ Rl W' ((RSl.fair RFlaw.fair).below ((RSl.fair RFlaw.fair).below Q2.out hb5) h) ((RSl.fair RFlaw.fair).below Q4.out h))
 have K3 := Lib.hid (fun W' (h : Below V5.heap.size V5 W') => (hdab ▸ same_gen _ _ _ _ a b W' ((RSl.fair RType.fair).below H2.out (below_via hG5 h hG5.size)) ((RSl.fair RType.fair).below H3.out (below_via hG5 h hG5.size)) : Calls Tryz.prog 9 #[.agg #[.slice A2 a.length k2], .agg #[.slice A3 b.length k3]] W' (Ret W' (.bool dab))))
 have K4 := Lib.hid (fun W' (h : Below V5.heap.size V5 W') => (hdab ▸ sameBook_genR _ _ _ _ a b W' ((RSl.fair RType.fair).below H2.out (below_via hG5 h hG5.size)) ((RSl.fair RType.fair).below H3.out (below_via hG5 h hG5.size)) : Calls Tryz.prog 7 #[.agg #[.slice A2 a.length k2], .agg #[.slice A3 b.length k3]] W' (Ret W' (.bool dab))))
 have K5 := Lib.hid (fun W' (h : Below V5.heap.size V5 W') => sameBook_anyR _ _ _ _ was W' ((RSl.fair RType.fair).below ((RSl.fair RType.fair).below C1'.out hb5) h) ((RSl.fair RType.fair).below H1.out (below_via hG5 h hG5.size)))
 have K6 := Lib.hid (fun W' (h : Below V5.heap.size V5 W') => sameBook_anyR _ _ _ _ a W' ((RSl.fair RType.fair).below ((RSl.fair RType.fair).below C2'.out hb5) h) ((RSl.fair RType.fair).below H2.out (below_via hG5 h hG5.size)))
 have K7 := Lib.hid (fun W' (h : Below V5.heap.size V5 W') => sameBook_anyR _ _ _ _ b W' ((RSl.fair RType.fair).below ((RSl.fair RType.fair).below C3'.out hb5) h) ((RSl.fair RType.fair).below H3.out (below_via hG5 h hG5.size)))
 have K8 := Lib.hid (fun W' (h : Below V5.heap.size V5 W') => merges_any W' (HW.out.below (below_via hG5 h hG5.size)))
 have HS := Lib.hid (fun (W' : World) (h : Below V5.heap.size V5 W') => (show (fun W' => World.cell? W' ⟨X10, 0, none⟩ = some (.slice D1 Rb.length d1) ∧ World.cell? W' ⟨X13, 0, none⟩ = some (.slice E1 Rb.length e1) ∧ World.cell? W' ⟨w.heap.size, 0, none⟩ = some (.slice A1 was.length k1) ∧ World.cell? W' ⟨w.heap.size + 1, 0, none⟩ = some (.slice A2 a.length k2) ∧ World.cell? W' ⟨w.heap.size + 1 + 1, 0, none⟩ = some (.slice A3 b.length k3) ∧ World.cell? W' ⟨g7, 0, none⟩ = some (.slice B1 was.length c1) ∧ World.cell? W' ⟨g8, 0, none⟩ = some (.slice B2 a.length c2) ∧ World.cell? W' ⟨g9, 0, none⟩ = some (.slice B3 b.length c3)) W' from ⟨(a10.below h a10.lt).cell 0, (y13.below h y13.lt).cell 0, (a1.below h a1.lt).cell 0, (a2.below h a2.lt).cell 0, (a3.below h a3.lt).cell 0, (a7.below h a7.lt).cell 0, (a8.below h a8.lt).cell 0, (a9.below h a9.lt).cell 0⟩))
 have HG5 := Lib.hid hG5
 clear hdab Q1 Q2 Q3 Q4 H1 H2 H3 C1' C2' C3' HW y10 y13 z1 z2 z3 z7 z8 z9 a10 a1 a2 a3 a7 a8 a9 hb5 hG5
 have hB := below_drew (Below.here V5)
 have hS := HS.out _ hB
 refine lateP_start (fun W' => World.cell? W' ⟨X10, 0, none⟩ = some (.slice D1 Rb.length d1) ∧ World.cell? W' ⟨X13, 0, none⟩ = some (.slice E1 Rb.length e1) ∧ World.cell? W' ⟨w.heap.size, 0, none⟩ = some (.slice A1 was.length k1) ∧ World.cell? W' ⟨w.heap.size + 1, 0, none⟩ = some (.slice A2 a.length k2) ∧ World.cell? W' ⟨w.heap.size + 1 + 1, 0, none⟩ = some (.slice A3 b.length k3) ∧ World.cell? W' ⟨g7, 0, none⟩ = some (.slice B1 was.length c1) ∧ World.cell? W' ⟨g8, 0, none⟩ = some (.slice B2 a.length c2) ∧ World.cell? W' ⟨g9, 0, none⟩ = some (.slice B3 b.length c3)) (fun _ => true) (by kernel_rfl) ?_
 generalize V5.drew = Wb at hB hS ⊢
 refine tkP 0 hS ?_
 try simp only [pu]
 refine tkP 1 hS ?_
 try simp only [pu]
 refine lateP_one (i := 2) rfl (by kernel_rfl) (fun K hK => ?_)
 go_simp
 refine (K1.out _ hB).mono ?_
 rintro e wn ⟨rfl, hbn⟩
 replace hB := below_via hB hbn hB.size
 clear hS
 have hS := HS.out _ hB
 refine hK.out _ _ (fun _ _ => hS) ?_
 clear hK K
 try simp only [pu]
 refine ppP 3 ?_
 try simp only [pu]
 refine ppP 4 ?_
 try simp only [pu]
 refine ppP 5 ?_
 try simp only [pu]
 refine lateP_one (i := 6) rfl (by kernel_rfl) (fun K hK => ?_)
 go_simp
 refine (K2.out _ hB).mono ?_
 rintro e wn ⟨rfl, hbn⟩
 replace hB := below_via hB hbn hB.size
 clear hS
 have hS := HS.out _ hB
 refine hK.out _ _ (fun _ _ => hS) ?_
 clear hK K
 try simp only [pu]
 refine ppP 7 ?_
 try simp only [pu]
 refine ppP 8 ?_
 try simp only [pu]
 refine ppP 9 ?_
 try simp only [pu]
 refine ppP 10 ?_
 try simp only [pu]
 refine ppP 11 ?_
 try simp only [pu]
 refine ppP 12 ?_
 try simp only [pu]
 refine ppP 13 ?_
 try simp only [pu]
 as_aux_lemma =>
 refine tkP 14 hS ?_
 try simp only [pu]
 refine tkP 15 hS ?_
 try simp only [pu]
 refine tkP 17 hS ?_
 try simp only [pu]
 refine tkP 18 hS ?_
 try simp only [pu]
 refine lateP_one (i := 16) rfl (by kernel_rfl) (fun K hK => ?_)
 go_simp
 refine (K3.out _ hB).mono ?_
 rintro e wn ⟨rfl, hbn⟩
 replace hB := below_via hB hbn hB.size
 clear hS
 have hS := HS.out _ hB
 refine hK.out _ _ (fun _ _ => hS) ?_
 clear hK K
 try simp only [pu]
 refine lateP_one (i := 19) rfl (by kernel_rfl) (fun K hK => ?_)
 go_simp
 refine (K4.out _ hB).mono ?_
 rintro e wn ⟨rfl, hbn⟩
 replace hB := below_via hB hbn hB.size
 clear hS
 have hS := HS.out _ hB
 refine hK.out _ _ (fun _ _ => hS) ?_
 clear hK K
 try simp only [pu]
 refine ppP 20 ?_
 try simp only [pu]
 refine ppP 21 ?_
 try simp only [pu]
 refine ppP 22 ?_
 try simp only [pu]
 as_aux_lemma =>
 refine tkP 23 hS ?_
 try simp only [pu]
 refine tkP 24 hS ?_
 try simp only [pu]
 refine lateP_one (i := 25) rfl (by kernel_rfl) (fun K hK => ?_)
 go_simp
 refine (K5.out _ hB).mono ?_
 rintro e wn ⟨rfl, hbn⟩
 replace hB := below_via hB hbn hB.size
 clear hS
 have hS := HS.out _ hB
 refine hK.out _ _ (fun _ _ => hS) ?_
 clear hK K
 try simp only [pu]
 refine ppP 26 ?_
 try simp only [pu]
 refine ppP 27 ?_
 try simp only [pu]
 refine tkP 28 hS ?_
 try simp only [pu]
 refine tkP 29 hS ?_
 try simp only [pu]
 refine lateP_one (i := 30) rfl (by kernel_rfl) (fun K hK => ?_)
 go_simp
 refine (K6.out _ hB).mono ?_
 rintro e wn ⟨rfl, hbn⟩
 replace hB := below_via hB hbn hB.size
 clear hS
 have hS := HS.out _ hB
 refine hK.out _ _ (fun _ _ => hS) ?_
 clear hK K
 try simp only [pu]
 refine ppP 31 ?_
 try simp only [pu]
 refine ppP 32 ?_
 try simp only [pu]
 as_aux_lemma =>
 refine tkP 33 hS ?_
 try simp only [pu]
 refine tkP 34 hS ?_
 try simp only [pu]
 refine lateP_one (i := 35) rfl (by kernel_rfl) (fun K hK => ?_)
 go_simp
 refine (K7.out _ hB).mono ?_
 rintro e wn ⟨rfl, hbn⟩
 replace hB := below_via hB hbn hB.size
 clear hS
 have hS := HS.out _ hB
 refine hK.out _ _ (fun _ _ => hS) ?_
 clear hK K
 try simp only [pu]
 refine ppP 36 ?_
 try simp only [pu]
 refine ppP 37 ?_
 try simp only [pu]
 refine lateP_one (i := 38) rfl (by kernel_rfl) (fun K hK => ?_)
 go_simp
 refine (K8.out _ hB).mono ?_
 rintro e wn ⟨rfl, hbn⟩
 replace hB := below_via hB hbn hB.size
 clear hS
 have hS := HS.out _ hB
 refine hK.out _ _ (fun _ _ => hS) ?_
 clear hK K
 try simp only [pu]
 refine ppP 39 ?_
 try simp only [pu]
 refine ppP 40 ?_
 try simp only [pu]
 refine lateP_done (by kernel_rfl) ?_ _
 go_wp2_with fail
 go_ret
 exact ⟨by simp, below_via HG5.out hB HG5.out.size⟩
end Go.Proofs.YtihdnjnhhhafkaaGreatDoor
