/- The walks of compat.pairs and what it calls. -/
import Derived.Test.YtfidfakcbjoilaaGreatDoorBooks
import Derived.Test.YtfidfakcbjoilaaGreatDoorLates
import Derived.Test.YtfidfakcbjoilaaGreatDoorBase
import Derived.Test.YtfidfakcbjoilaaGreatDoorCLaws
import Derived.Deep.CutBlock
import Derived.Deep.Light
set_option linter.all false
set_option maxRecDepth 100000
set_option maxHeartbeats 8000000
namespace Go.Proofs.YtfidfakcbjoilaaGreatDoor
open Go.RowKit
def pairCells (p : PairD) : List Value := [.string p.w, .string p.r, .int .i64 p.from_, .int .i64 p.id]
def RPair : Rel PairD := RFlat pairCells
theorem RPair.fair : Fair RPair := RFlat.fair _
theorem sl_pairs : SlInfo Tryz.prog 48 51 4 48 := SlInfo.mk (z := .agg #[.string .empty, .string .empty, .int .i64 0, .int .i64 0]) Tryz.underlying48 (by decide) (by decide) (by kernel_rfl) rfl
theorem RType.rows_ {S : Nat → Prop} {w : World} {n : ByteArray} {e : Bool} {v1 v2 v3 : Value} {t : TypeD} (h : RType S w [.string n, .bool e, v1, v2, v3] t) : RSl 5 56 RField S w [v1] t.fields ∧ RSl 1 8 RInt S w [v2] t.gone ∧ RSl 2 24 RItem S w [v3] t.items := by
 obtain ⟨vf, vg, vi, h, a, b, c⟩ := h
 simp only [List.cons.injEq, and_true] at h
 obtain ⟨_, _, rfl, rfl, rfl⟩ := h
 exact ⟨a, b, c⟩
def stepO (i : Nat) (l : List PairD) (f : FieldD) : Option FieldD → List PairD
 | none => l
 | some g => if f.kind = 5 ∧ g.kind = 5 ∧ hasP l f.type g.type = false then l ++ [⟨f.type, g.type, i, f.id⟩] else l
theorem Lies.newAt {w : World} {g : Nat} {cs : List Value} {e : TypeId} (h : g = w.heap.size) : Lies (w.alloc (.cells cs.toArray e)) g 0 cs := h ▸ Lies.new w cs e
theorem Own.one {α : Type} {base e sz : Nat} {R : Rel α} {w : World} {g : Nat} {cs : List Value} {x : α} (hb : Box w g e cs) (hg : base ≤ g) (hl : cs.length = sz) (hr : R NoT w cs x) : Own base e sz R NoT w (.slice (some ⟨g, 0, none⟩) 1 1) [x] := by
 refine ⟨[cs], ⟨by simp [hl], .inr ⟨g, 1, cs.toArray, rfl, hg, hb, Nat.le_refl _, by decide, by simp [hl], by simpa using List.take_of_length_le (Nat.le_of_eq hl)⟩⟩, rfl, fun _ _ h => h, fun k y c hy hc => ?_⟩
 cases k with
 | zero => simp at hy hc; subst hy hc; exact ⟨hl, hr⟩
 | succ k => simp at hy
theorem pairsOne_any (p : PairD) (F G : Nat) (ft gt : ByteArray) (w : World) (hf : w.cell? ⟨F, 2, none⟩ = some (.string ft)) (hg : w.cell? ⟨G, 2, none⟩ = some (.string gt)) :
  Calls Tryz.prog 38 #[.agg (pairCells p).toArray, .pointer (some ⟨F, 0, none⟩), .pointer (some ⟨G, 0, none⟩)] w (Ret w (.bool (decide (p.w = ft ∧ p.r = gt)))) := by
 have hFl : F < w.heap.size := World.block_lt_of_cell? w _ hf
 have hGl : G < w.heap.size := World.block_lt_of_cell? w _ hg
 obtain ⟨pw, pr, pf, pi⟩ := p
 dsimp only [pairCells]
 have hb := (Below.here w).alloc (Nat.le_refl _) (.cells [Value.string pw, .string pr, .int .i64 pf, .int .i64 pi].toArray 51)
 by_cases h1 : pw = ft
 ·have e1 : (pw.toList == ft.toList) = true := by rw [ba_eq]; simpa using h1
  by_cases h2 : pr = gt
  ·have e2 : (pr.toList == gt.toList) = true := by rw [ba_eq]; simpa using h2
   rw [decide_eq_true (show pw = ft ∧ pr = gt from ⟨h1, h2⟩)]
   clear h1 h2
   go_enter Tryz.func38, Tryz.ntmps38
   go_wp2_with fail
   go_ret
   exact ⟨rfl, hb⟩
  ·have e2 : (pr.toList == gt.toList) = false := by rw [ba_eq]; simpa using h2
   rw [decide_eq_false (fun h : pw = ft ∧ pr = gt => h2 h.2)]
   clear h1 h2
   go_enter Tryz.func38, Tryz.ntmps38
   go_wp2_with fail
   go_ret
   exact ⟨rfl, hb⟩
 ·have e1 : (pw.toList == ft.toList) = false := by rw [ba_eq]; simpa using h1
  rw [decide_eq_false (fun h : pw = ft ∧ pr = gt => h1 h.1)]
  clear h1
  go_enter Tryz.func38, Tryz.ntmps38
  go_wp2_with fail
  go_ret
  exact ⟨rfl, hb⟩
theorem pairsIdx_any (S : Nat → Prop) (v : Value) (l : List PairD) (F G : Nat) (ft gt : ByteArray) (w : World) (hl : RSl 4 48 RPair S w [v] l) (hf : w.cell? ⟨F, 2, none⟩ = some (.string ft)) (hg : w.cell? ⟨G, 2, none⟩ = some (.string gt)) :
  Calls Tryz.prog 64 #[v, .func (.func 38) #[] #[.pointer (some ⟨F, 0, none⟩), .pointer (some ⟨G, 0, none⟩)]] w (SignPost (hasP l ft gt) w) := by
 obtain ⟨A, cap, rfl, hlc, hlb⟩ := hl.form
 have HL := Lib.hid hl
 have hFw := World.block_lt_of_cell? w _ hf
 have hGw := World.block_lt_of_cell? w _ hg
 have HF := Lib.hid hf
 have HG := Lib.hid hg
 clear hl hf hg
 go_enter Tryz.func64, Tryz.ntmps64
 go_wp2_with fail
 go_loopw [8] (fun i wr => ∃ k : Nat, i = .int .i64 k ∧ k ≤ l.length ∧ Hid (hasP (l.drop k) ft gt = hasP l ft gt) ∧ Below w.heap.size w wr) (fun i _ => l.length - (intOf i).toNat)
 case atStart => exact ⟨0, rfl, by omega, rfl, Below.refl _ _⟩
 case round =>
  obtain ⟨k, rfl, hk, he, hb⟩ := hrel
  by_cases hlt : k < l.length
  ·obtain ⟨g, o, es, rfl, hS, hgl, hes, hr, hc0⟩ := HL.out.at_ hlt
   have hc := hc0.keep (Keep.of_below hb) hS
   have hgw : g < wr.heap.size := Nat.lt_of_lt_of_le hgl hb.size
   obtain ⟨x, hye⟩ : ∃ y, y = l[k] := ⟨_, rfl⟩
   have hd : hasP (l.drop k) ft gt = (decide (x.w = ft ∧ x.r = gt) || hasP (l.drop (k + 1)) ft gt) := by
    rw [List.drop_eq_getElem_cons hlt, ← hye]; unfold hasP; rw [List.any_cons]
   rw [← hye] at hr
   have hr' : es = pairCells x := hr
   subst hr'
   have hone := Lib.hid (pairsOne_any x F G ft gt wr (by rw [World.cell?_of_block (w := w) (hb.block _ hFw)]; exact HF.out) (by rw [World.cell?_of_block (w := w) (hb.block _ hGw)]; exact HG.out))
   obtain ⟨xw, xr, xf, xi⟩ := x
   have q0 : wr.cell? ⟨g, o + k * 4, none⟩ = some (.string xw) := hc.at_ 0 rfl
   have q1 : wr.cell? ⟨g, o + k * 4 + 1, none⟩ = some (.string xr) := hc.at_ 1 rfl
   have q2 : wr.cell? ⟨g, o + k * 4 + 2, none⟩ = some (.int .i64 xf) := hc.at_ 2 rfl
   have q3 : wr.cell? ⟨g, o + k * 4 + 3, none⟩ = some (.int .i64 xi) := hc.at_ 3 rfl
   have He := Lib.hid (he.out.symm.trans hd)
   dsimp only [pairCells] at hone
   dsimp only at He
   have e1 : IntKind.i64.wrap ((k : Int) + 1) = (k : Int) + 1 := IntWalk.i64_in _ (by omega)
   obtain ⟨bb, hbb⟩ : ∃ bb, bb = decide (xw = ft ∧ xr = gt) := ⟨_, rfl⟩
   rw [← hbb] at hone He
   clear hr hc hc0 hye hes hd he hbb
   go_wp2_with fail
   refine hone.out.mono ?_
   rintro e w1 ⟨rfl, hb1⟩
   cases bb with
   | true =>
    go_wp2_with fail
    go_ret
    exact ⟨_, rfl, by show _ = _; rw [He.out]; simp, below_via hb hb1 hb.size⟩
   | false =>
    have He2 : Hid (hasP (l.drop (k + 1)) ft gt = hasP l ft gt) := by show _ = _; rw [He.out]; simp
    go_wp2_with fail
    go_roundw
    case rel => exact ⟨k + 1, by simp, by omega, He2, below_via hb hb1 hb.size⟩
    case measure => simp [intOf]; omega
  ·have hd : l.drop k = [] := List.drop_eq_nil_of_le (by omega)
   rw [hd] at he
   have He := Lib.hid he.out
   clear he
   go_wp2_with fail
   go_ret
   exact ⟨_, rfl, by show _ = _; rw [← He.out]; rfl, hb⟩
theorem pairsHas_any (S : Nat → Prop) (v : Value) (l : List PairD) (F G : Nat) (ft gt : ByteArray) (w : World) (hl : RSl 4 48 RPair S w [v] l) (hf : w.cell? ⟨F, 2, none⟩ = some (.string ft)) (hg : w.cell? ⟨G, 2, none⟩ = some (.string gt)) :
  Calls Tryz.prog 37 #[v, .func (.func 38) #[] #[.pointer (some ⟨F, 0, none⟩), .pointer (some ⟨G, 0, none⟩)]] w (Ret w (.bool (hasP l ft gt))) := by
 have H := Lib.hid (pairsIdx_any S v l F G ft gt w hl hf hg)
 clear hl hf hg
 go_enter Tryz.func37, Tryz.ntmps37
 go_wp2_with fail
 refine H.out.mono ?_
 rintro e w1 ⟨i, rfl, hi, hb1⟩
 go_wp2_with fail
 go_ret
 exact ⟨ret_b (by first | exact hi.out | (rw [← hi.out]; simp)), hb1⟩
theorem pairs_any (S : Nat → Prop) (vw vr : Value) (bw br : BookD) (name : ByteArray) (w : World) (hb1 : RSl 5 96 RType S w [vw] bw) (hb2 : RSl 5 96 RType S w [vr] br) (hw : goodF bw = 0) (hr : goodF br = 0) (hn1 : noneB bw name = false) (hn2 : noneB br name = false) :
  Calls Tryz.prog 16 #[.agg #[vw], .agg #[vr], .string name] w (fun e w' => ∃ v, e = .returned v ∧ RSl 4 48 RPair (New w) w' [v] (pairsF bw br name) ∧ Below w.heap.size w w') := by
 obtain ⟨AW, cw, rfl, -, -⟩ := hb1.form
 obtain ⟨AR, cr, rfl, -, -⟩ := hb2.form
 obtain ⟨P, hP⟩ : ∃ P, P = pairsF bw br name := ⟨_, rfl⟩
 rw [← hP]
 have HP := Lib.hid hP
 have H1 := Lib.hid ((RSl.fair RType.fair).old hb1)
 have H2 := Lib.hid ((RSl.fair RType.fair).old hb2)
 have HG := Lib.hid (show goodF bw = 0 ∧ goodF br = 0 from ⟨hw, hr⟩)
 have HN := Lib.hid (pairs_start hn1 hn2)
 obtain ⟨x1, x2, x3⟩ := boxes2 w [.slice AW bw.length cw] [.slice AR br.length cr] 24 24
 have y1 := x1.alloc (.cells [.string name, .string name, .int .i64 (-1), .int .i64 0].toArray 51)
 have y2 := x2.alloc (.cells [.string name, .string name, .int .i64 (-1), .int .i64 0].toArray 51)
 have y3 := x3.alloc x3.size (.cells [.string name, .string name, .int .i64 (-1), .int .i64 0].toArray 51)
 have y4 := Box.newB x3 51 [.string name, .string name, .int .i64 (-1), .int .i64 0]
 have hOw := Own.one (base := w.heap.size) (sz := 4) (R := RPair) (x := ⟨name, name, -1, 0⟩) y4 x3.size rfl rfl
 simp only [World.size_alloc] at hOw
 clear hb1 hb2 hw hr hn1 hn2 hP x1 x2 x3 y4
 go_enter Tryz.func16, Tryz.ntmps16
 go_wp2_with fail
 go_loopw [7, 8] (fun c7 c8 wr => ∃ (i k : Nat) (l : List PairD), c8 = .int .i64 i ∧ i ≤ l.length ∧ l.length ≤ 16 ∧ Box wr w.heap.size 24 [.slice AW bw.length cw] ∧ Box wr (w.heap.size + 1) 24 [.slice AR br.length cr] ∧ Own w.heap.size 51 4 RPair NoT wr c7 l ∧ Below w.heap.size w wr ∧ Hid (i + k = 18 ∧ PairsOk bw br l ∧ P = pairsGo bw br k i l)) (fun _ c8 _ => 17 - (intOf c8).toNat)
 case atStart => exact ⟨0, 18, _, rfl, by simp, by simp, y1, y2, hOw, y3, (show _ ∧ _ from ⟨rfl, HN.out, HP.out⟩)⟩
 case round =>
  clear y1 y2 y3 hOw
  obtain ⟨i, k, l, rfl, hi, hl16, hX, hZ, hO, hG, HI⟩ := hrel
  obtain ⟨A, cap, rfl, hlc⟩ := hO.form
  by_cases hlt : i < l.length
  ·--[RND
   obtain ⟨gl, hA, hglb, hgll⟩ := hO.there_ (by omega)
   subst hA
   obtain ⟨p, hp⟩ : ∃ p, p = l[i] := ⟨_, rfl⟩
   have Hp := Lib.hid hp
   obtain ⟨cs0, -, hcs0, hli⟩ := hO.cells hlt
   rw [← hp] at hcs0
   have e0 : cs0 = pairCells p := hcs0
   subst e0
   have hpm : p ∈ l := by rw [hp]; exact List.getElem_mem hlt
   have Hpf := Lib.hid (HI.out.2.1.2 p hpm)
   obtain ⟨pw, pr, pf, pi⟩ := p
   have l0 : wr.cell? ⟨gl, i * 4, none⟩ = some (.string pw) := by have := hli.at_ 0 rfl; simpa using this
   have l1 : wr.cell? ⟨gl, i * 4 + 1, none⟩ = some (.string pr) := hli.at_ 1 rfl
   have z1 := hX.cell 0
   have z2 := hZ.cell 0
   have hlt' : (i : Int) < (l.length : Int) := by omega
   have hnz : (0 : Int) ≤ (i : Int) := by omega
   have e1 : IntKind.i64.wrap ((i : Int) + 1) = (i : Int) + 1 := IntWalk.i64_in _ (by omega)
   have hws : w.heap.size ≤ wr.heap.size := hG.size
   obtain ⟨tt, htt⟩ : ∃ tt, tt = (findT bw pw).getD .zero := ⟨_, rfl⟩
   have Htt := Lib.hid htt
   have hfd := Lib.hid (fun W (h : Below wr.heap.size wr W) => find_any (Old w) _ bw pw W ((RSl.fair RType.fair).below H1.out (below_via hG h hG.size)))
   have HS := Lib.hid (fun W (h : Below wr.heap.size wr W) => show (fun W' => World.cell? W' ⟨w.heap.size, 0, none⟩ = some (.slice AW bw.length cw) ∧ World.cell? W' ⟨gl, i * 4, none⟩ = some (.string pw)) W from ⟨(hX.below h hX.lt).cell 0, (World.cell?_of_block (h.block _ hgll)).trans l0⟩)
   clear hp hcs0 hli hpm htt
   go_upto_region 5 with fail
   go_cut [9] from 27 to 36 (fun q W1 => ∃ (Y : Nat) (A1 : Option Addr) (k1 : Nat) (A2 : Option Addr) (k2 : Nat) (A3 : Option Addr) (k3 : Nat), q = .pointer (some ⟨Y, 0, none⟩) ∧ wr.heap.size ≤ Y ∧ Box W1 Y 46 [.string tt.name, .bool tt.enum, .slice A1 tt.fields.length k1, .slice A2 tt.gone.length k2, .slice A3 tt.items.length k3] ∧ RowKit.Below wr.heap.size wr W1 ∧ RType (Old w) W1 [.string tt.name, .bool tt.enum, .slice A1 tt.fields.length k1, .slice A2 tt.gone.length k2, .slice A3 tt.items.length k3] tt)
   case first =>
    have hS := HS.out _ (below_drew (Below.here wr))
    have hdr := hws
    have hY0 := hws
    refine lateP_start (fun W' => World.cell? W' ⟨w.heap.size, 0, none⟩ = some (.slice AW bw.length cw) ∧ World.cell? W' ⟨gl, i * 4, none⟩ = some (.string pw)) (fun i => i != 11 && i != 12) (by kernel_rfl) ?_
    have hBd := below_drew (Below.here wr)
    clear hX hZ hO hdr
    generalize wr.drew = Wd at hS hBd ⊢
    refine tkP 0 hS ?_
    try simp only [pu]
    refine ppP 1 ?_
    try simp only [pu]
    refine ppP 2 ?_
    try simp only [pu]
    refine ppP 3 ?_
    try simp only [pu]
    refine ppP 4 ?_
    try simp only [pu]
    refine tkP 5 hS ?_
    try simp only [pu]
    refine lateP_two (i := 6) (j := 10) rfl rfl (by kernel_rfl) (fun K hK => ?_) (fun K hK => ?_)
    ·go_simp
     refine (hfd.out Wd hBd).mono ?_
     rintro e w5 ⟨cs, rfl, hrt, hb5⟩
     rw [← Htt.out] at hrt
     obtain ⟨A1, k1, A2, k2, A3, k3, rfl, -, -, -⟩ := hrt.parts
     have hB5 := below_via hBd hb5 hBd.size
     replace hS : (fun W' => World.cell? W' ⟨w.heap.size, 0, none⟩ = some (.slice AW bw.length cw) ∧ World.cell? W' ⟨gl, i * 4, none⟩ = some (.string pw)) w5 := HS.out w5 hB5
     refine hK.out _ _ (fun _ _ => hS) ?_
     clear hK K
     try simp only [pu]
     refine ppP 7 ?_
     try simp only [pu]
     refine ppP 8 ?_
     try simp only [pu]
     refine ppP 9 ?_
     try simp only [pu]
     refine lateP_one (i := 10) rfl (by kernel_rfl) (fun K hK => ?_)
     go_simp
     have hY := Box.new w5 46 [.string ⟨#[]⟩, .bool false, .slice none 0 0, .slice none 0 0, .slice none 0 0]
     have hB6 := hB5.alloc hB5.size (.cells [.string ⟨#[]⟩, .bool false, .slice none 0 0, .slice none 0 0, .slice none 0 0].toArray 46)
     have hYd := hB5.size
     have Hrt := Lib.hid (RType.fair.below (RType.fair.below hrt hb5) ((Below.here w5).alloc (Nat.le_refl _) (.cells [.string ⟨#[]⟩, .bool false, .slice none 0 0, .slice none 0 0, .slice none 0 0].toArray 46)))
     replace hS : (fun W' => World.cell? W' ⟨w.heap.size, 0, none⟩ = some (.slice AW bw.length cw) ∧ World.cell? W' ⟨gl, i * 4, none⟩ = some (.string pw)) (w5.alloc (.cells [.string ⟨#[]⟩, .bool false, .slice none 0 0, .slice none 0 0, .slice none 0 0].toArray 46)) := HS.out _ hB6
     clear hb5 hrt hB5 hBd
     refine hK.out _ _ (fun _ _ => hS) ?_
     clear hK K
     try simp only [pu]
     generalize w5.heap.size = Y at hY hYd ⊢
     generalize (World.alloc w5 _) = w6 at hY hB6 hS Hrt ⊢
     obtain ⟨c0, c1, c2, c3, c4⟩ := hY.five
     have f0 := hY.frozen 0
     have f1 := hY.frozen 1
     have f2 := hY.frozen 2
     have f3 := hY.frozen 3
     have f4 := hY.frozen 4
     have ly := hY.lt
     have hB7 := below_setCells hYd [.string tt.name, .bool tt.enum, .slice A1 tt.fields.length k1, .slice A2 tt.gone.length k2, .slice A3 tt.items.length k3] 0 _ hB6
     have hY7 := hY.setCells [.string tt.name, .bool tt.enum, .slice A1 tt.fields.length k1, .slice A2 tt.gone.length k2, .slice A3 tt.items.length k3] rfl
     have Hrt7 := Lib.hid (RType.fair.keep Hrt.out (Keep.setCells (S := Old w) (g := Y) (by show ¬ Y < w.heap.size; have := hws; omega) [.string tt.name, .bool tt.enum, .slice A1 tt.fields.length k1, .slice A2 tt.gone.length k2, .slice A3 tt.items.length k3] 0 w6))
     refine lateP_one (i := 11) rfl (by kernel_rfl) (fun K hK => ?_)
     go_simp
     refine hK.out _ _ (fun h => absurd h (by decide)) ?_
     clear hK K
     try simp only [pu]
     change anyP _ _ _ _ _ _ _ _ _ (Go.Proofs.YtfidfakcbjoilaaGreatDoor.setCells w6 Y 0 [.string tt.name, .bool tt.enum, .slice A1 tt.fields.length k1, .slice A2 tt.gone.length k2, .slice A3 tt.items.length k3])
     clear c0 c1 c2 c3 c4 f0 f1 f2 f3 f4 ly hB6 hY hS
     generalize (Go.Proofs.YtfidfakcbjoilaaGreatDoor.setCells w6 Y 0 _) = w7 at hB7 hY7 Hrt7 ⊢
     refine lateP_one (i := 12) rfl (by kernel_rfl) (fun K hK => ?_)
     go_simp
     refine hK.out _ _ (fun h => absurd h (by decide)) ?_
     clear hK K
     try simp only [pu]
     refine lateP_done (by kernel_rfl) ?_ _
     go_wp2_with fail
     go_meet
     case rel => exact ⟨Y, A1, k1, A2, k2, A3, k3, rfl, hYd, hY7, hB7, Hrt7.out⟩
    ·go_simp
     have hY := Box.new Wd 46 [.string ⟨#[]⟩, .bool false, .slice none 0 0, .slice none 0 0, .slice none 0 0]
     have hB5 := hBd.alloc hBd.size (.cells [.string ⟨#[]⟩, .bool false, .slice none 0 0, .slice none 0 0, .slice none 0 0].toArray 46)
     replace hS : (fun W' => World.cell? W' ⟨w.heap.size, 0, none⟩ = some (.slice AW bw.length cw) ∧ World.cell? W' ⟨gl, i * 4, none⟩ = some (.string pw)) (Wd.alloc (.cells [.string ⟨#[]⟩, .bool false, .slice none 0 0, .slice none 0 0, .slice none 0 0].toArray 46)) := HS.out _ hB5
     refine hK.out _ _ (fun _ _ => hS) ?_
     clear hK K
     try simp only [pu]
     have hYd := hBd.size
     generalize Wd.heap.size = Y at hY hYd ⊢
     generalize (World.alloc Wd _) = w4 at hY hB5 hS ⊢
     refine lateP_one (i := 6) rfl (by kernel_rfl) (fun K hK => ?_)
     go_simp
     refine (hfd.out w4 hB5).mono ?_
     rintro e w6 ⟨cs, rfl, hrt, hb6⟩
     rw [← Htt.out] at hrt
     obtain ⟨A1, k1, A2, k2, A3, k3, rfl, -, -, -⟩ := hrt.parts
     replace hY := hY.below hb6 hY.lt
     have hB6 := below_via hB5 hb6 hB5.size
     have Hrt := Lib.hid (RType.fair.below hrt hb6)
     replace hS : (fun W' => World.cell? W' ⟨w.heap.size, 0, none⟩ = some (.slice AW bw.length cw) ∧ World.cell? W' ⟨gl, i * 4, none⟩ = some (.string pw)) w6 := HS.out _ hB6
     clear hb6 hrt hB5 hBd
     refine hK.out _ _ (fun _ _ => hS) ?_
     clear hK K
     try simp only [pu]
     refine ppP 7 ?_
     try simp only [pu]
     refine ppP 8 ?_
     try simp only [pu]
     refine ppP 9 ?_
     try simp only [pu]
     obtain ⟨c0, c1, c2, c3, c4⟩ := hY.five
     have f0 := hY.frozen 0
     have f1 := hY.frozen 1
     have f2 := hY.frozen 2
     have f3 := hY.frozen 3
     have f4 := hY.frozen 4
     have ly := hY.lt
     have hB7 := below_setCells hYd [.string tt.name, .bool tt.enum, .slice A1 tt.fields.length k1, .slice A2 tt.gone.length k2, .slice A3 tt.items.length k3] 0 _ hB6
     have hY7 := hY.setCells [.string tt.name, .bool tt.enum, .slice A1 tt.fields.length k1, .slice A2 tt.gone.length k2, .slice A3 tt.items.length k3] rfl
     have Hrt7 := Lib.hid (RType.fair.keep Hrt.out (Keep.setCells (S := Old w) (g := Y) (by show ¬ Y < w.heap.size; have := hws; omega) [.string tt.name, .bool tt.enum, .slice A1 tt.fields.length k1, .slice A2 tt.gone.length k2, .slice A3 tt.items.length k3] 0 w6))
     refine lateP_one (i := 11) rfl (by kernel_rfl) (fun K hK => ?_)
     go_simp
     refine hK.out _ _ (fun h => absurd h (by decide)) ?_
     clear hK K
     try simp only [pu]
     change anyP _ _ _ _ _ _ _ _ _ (Go.Proofs.YtfidfakcbjoilaaGreatDoor.setCells w6 Y 0 [.string tt.name, .bool tt.enum, .slice A1 tt.fields.length k1, .slice A2 tt.gone.length k2, .slice A3 tt.items.length k3])
     clear c0 c1 c2 c3 c4 f0 f1 f2 f3 f4 ly hB6 hY hS
     generalize (Go.Proofs.YtfidfakcbjoilaaGreatDoor.setCells w6 Y 0 _) = w7 at hB7 hY7 Hrt7 ⊢
     refine lateP_one (i := 12) rfl (by kernel_rfl) (fun K hK => ?_)
     go_simp
     refine hK.out _ _ (fun h => absurd h (by decide)) ?_
     clear hK K
     try simp only [pu]
     refine lateP_done (by kernel_rfl) ?_ _
     go_wp2_with fail
     go_meet
     case rel => exact ⟨Y, A1, k1, A2, k2, A3, k3, rfl, hYd, hY7, hB7, Hrt7.out⟩
   case rest =>
    obtain ⟨Y1, B1, j1, B2, j2, B3, j3, rfl, hY1d, hY1, hc1, hr1⟩ := hcut
    obtain ⟨t1, ht1⟩ : ∃ x, x = tt := ⟨_, rfl⟩
    subst ht1
    have Ht1 := Htt
    have hO1 := hO.below RPair.fair hc1
    have hX1 := hX.below hc1 hX.lt
    have hZ1 := hZ.below hc1 hZ.lt
    have hG1 := below_via hG hc1 hG.size
    have hgl1 : gl < wc.heap.size := Nat.lt_of_lt_of_le hgll hc1.size
    have l1' : wc.cell? ⟨gl, i * 4 + 1, none⟩ = some (.string pr) := (World.cell?_of_block (hc1.block _ hgll)).trans l1
    clear Htt hfd HS hX hZ hO hG hY1d hws hgll l0 l1 z1 z2 hc1
    obtain ⟨wr, hwr⟩ : ∃ V, V = wc := ⟨_, rfl⟩
    subst hwr
    have hws : w.heap.size ≤ wr.heap.size := hG1.size
    have z2 := hZ1.cell 0
    obtain ⟨tt, htt⟩ : ∃ tt, tt = (findT br pr).getD .zero := ⟨_, rfl⟩
    have Htt := Lib.hid htt
    have hfd := Lib.hid (fun W (h : Below wr.heap.size wr W) => find_any (Old w) _ br pr W ((RSl.fair RType.fair).below H2.out (below_via hG1 h hG1.size)))
    have HS := Lib.hid (fun W (h : Below wr.heap.size wr W) => show (fun W' => World.cell? W' ⟨w.heap.size + 1, 0, none⟩ = some (.slice AR br.length cr) ∧ World.cell? W' ⟨gl, i * 4 + 1, none⟩ = some (.string pr)) W from ⟨(hZ1.below h hZ1.lt).cell 0, (World.cell?_of_block (h.block _ hgl1)).trans l1'⟩)
    clear htt
    go_upto_region 6 with fail
    go_cut [11] from 37 to 46 (fun q W1 => ∃ (Y : Nat) (A1 : Option Addr) (k1 : Nat) (A2 : Option Addr) (k2 : Nat) (A3 : Option Addr) (k3 : Nat), q = .pointer (some ⟨Y, 0, none⟩) ∧ wr.heap.size ≤ Y ∧ Box W1 Y 46 [.string tt.name, .bool tt.enum, .slice A1 tt.fields.length k1, .slice A2 tt.gone.length k2, .slice A3 tt.items.length k3] ∧ RowKit.Below wr.heap.size wr W1 ∧ RType (Old w) W1 [.string tt.name, .bool tt.enum, .slice A1 tt.fields.length k1, .slice A2 tt.gone.length k2, .slice A3 tt.items.length k3] tt)
    case first =>
     have hS := HS.out _ (below_drew (Below.here wr))
     refine lateP_start (fun W' => World.cell? W' ⟨w.heap.size + 1, 0, none⟩ = some (.slice AR br.length cr) ∧ World.cell? W' ⟨gl, i * 4 + 1, none⟩ = some (.string pr)) (fun i => i != 11 && i != 12) (by kernel_rfl) ?_
     have hBd := below_drew (Below.here wr)
     clear hX1 hZ1 hO1 hY1 hr1
     generalize wr.drew = Wd at hS hBd ⊢
     refine tkP 0 hS ?_
     try simp only [pu]
     refine ppP 1 ?_
     try simp only [pu]
     refine ppP 2 ?_
     try simp only [pu]
     refine ppP 3 ?_
     try simp only [pu]
     refine ppP 4 ?_
     try simp only [pu]
     refine tkP 5 hS ?_
     try simp only [pu]
     refine lateP_two (i := 6) (j := 10) rfl rfl (by kernel_rfl) (fun K hK => ?_) (fun K hK => ?_)
     ·go_simp
      refine (hfd.out Wd hBd).mono ?_
      rintro e w5 ⟨cs, rfl, hrt, hb5⟩
      rw [← Htt.out] at hrt
      obtain ⟨A1, k1, A2, k2, A3, k3, rfl, -, -, -⟩ := hrt.parts
      have hB5 := below_via hBd hb5 hBd.size
      replace hS : (fun W' => World.cell? W' ⟨w.heap.size + 1, 0, none⟩ = some (.slice AR br.length cr) ∧ World.cell? W' ⟨gl, i * 4 + 1, none⟩ = some (.string pr)) w5 := HS.out w5 hB5
      refine hK.out _ _ (fun _ _ => hS) ?_
      clear hK K
      try simp only [pu]
      refine ppP 7 ?_
      try simp only [pu]
      refine ppP 8 ?_
      try simp only [pu]
      refine ppP 9 ?_
      try simp only [pu]
      refine lateP_one (i := 10) rfl (by kernel_rfl) (fun K hK => ?_)
      go_simp
      have hY := Box.new w5 46 [.string ⟨#[]⟩, .bool false, .slice none 0 0, .slice none 0 0, .slice none 0 0]
      have hB6 := hB5.alloc hB5.size (.cells [.string ⟨#[]⟩, .bool false, .slice none 0 0, .slice none 0 0, .slice none 0 0].toArray 46)
      have hYd := hB5.size
      have Hrt := Lib.hid (RType.fair.below (RType.fair.below hrt hb5) ((Below.here w5).alloc (Nat.le_refl _) (.cells [.string ⟨#[]⟩, .bool false, .slice none 0 0, .slice none 0 0, .slice none 0 0].toArray 46)))
      replace hS : (fun W' => World.cell? W' ⟨w.heap.size + 1, 0, none⟩ = some (.slice AR br.length cr) ∧ World.cell? W' ⟨gl, i * 4 + 1, none⟩ = some (.string pr)) (w5.alloc (.cells [.string ⟨#[]⟩, .bool false, .slice none 0 0, .slice none 0 0, .slice none 0 0].toArray 46)) := HS.out _ hB6
      clear hb5 hrt hB5 hBd
      refine hK.out _ _ (fun _ _ => hS) ?_
      clear hK K
      try simp only [pu]
      generalize w5.heap.size = Y at hY hYd ⊢
      generalize (World.alloc w5 _) = w6 at hY hB6 hS Hrt ⊢
      obtain ⟨c0, c1, c2, c3, c4⟩ := hY.five
      have f0 := hY.frozen 0
      have f1 := hY.frozen 1
      have f2 := hY.frozen 2
      have f3 := hY.frozen 3
      have f4 := hY.frozen 4
      have ly := hY.lt
      have hB7 := below_setCells hYd [.string tt.name, .bool tt.enum, .slice A1 tt.fields.length k1, .slice A2 tt.gone.length k2, .slice A3 tt.items.length k3] 0 _ hB6
      have hY7 := hY.setCells [.string tt.name, .bool tt.enum, .slice A1 tt.fields.length k1, .slice A2 tt.gone.length k2, .slice A3 tt.items.length k3] rfl
      have Hrt7 := Lib.hid (RType.fair.keep Hrt.out (Keep.setCells (S := Old w) (g := Y) (by show ¬ Y < w.heap.size; have := hws; omega) [.string tt.name, .bool tt.enum, .slice A1 tt.fields.length k1, .slice A2 tt.gone.length k2, .slice A3 tt.items.length k3] 0 w6))
      refine lateP_one (i := 11) rfl (by kernel_rfl) (fun K hK => ?_)
      go_simp
      refine hK.out _ _ (fun h => absurd h (by decide)) ?_
      clear hK K
      try simp only [pu]
      change anyP _ _ _ _ _ _ _ _ _ (Go.Proofs.YtfidfakcbjoilaaGreatDoor.setCells w6 Y 0 [.string tt.name, .bool tt.enum, .slice A1 tt.fields.length k1, .slice A2 tt.gone.length k2, .slice A3 tt.items.length k3])
      clear c0 c1 c2 c3 c4 f0 f1 f2 f3 f4 ly hB6 hY hS
      generalize (Go.Proofs.YtfidfakcbjoilaaGreatDoor.setCells w6 Y 0 _) = w7 at hB7 hY7 Hrt7 ⊢
      refine lateP_one (i := 12) rfl (by kernel_rfl) (fun K hK => ?_)
      go_simp
      refine hK.out _ _ (fun h => absurd h (by decide)) ?_
      clear hK K
      try simp only [pu]
      refine lateP_done (by kernel_rfl) ?_ _
      go_wp2_with fail
      go_meet
      case rel => exact ⟨Y, A1, k1, A2, k2, A3, k3, rfl, hYd, hY7, hB7, Hrt7.out⟩
     ·go_simp
      have hY := Box.new Wd 46 [.string ⟨#[]⟩, .bool false, .slice none 0 0, .slice none 0 0, .slice none 0 0]
      have hB5 := hBd.alloc hBd.size (.cells [.string ⟨#[]⟩, .bool false, .slice none 0 0, .slice none 0 0, .slice none 0 0].toArray 46)
      replace hS : (fun W' => World.cell? W' ⟨w.heap.size + 1, 0, none⟩ = some (.slice AR br.length cr) ∧ World.cell? W' ⟨gl, i * 4 + 1, none⟩ = some (.string pr)) (Wd.alloc (.cells [.string ⟨#[]⟩, .bool false, .slice none 0 0, .slice none 0 0, .slice none 0 0].toArray 46)) := HS.out _ hB5
      refine hK.out _ _ (fun _ _ => hS) ?_
      clear hK K
      try simp only [pu]
      have hYd := hBd.size
      generalize Wd.heap.size = Y at hY hYd ⊢
      generalize (World.alloc Wd _) = w4 at hY hB5 hS ⊢
      refine lateP_one (i := 6) rfl (by kernel_rfl) (fun K hK => ?_)
      go_simp
      refine (hfd.out w4 hB5).mono ?_
      rintro e w6 ⟨cs, rfl, hrt, hb6⟩
      rw [← Htt.out] at hrt
      obtain ⟨A1, k1, A2, k2, A3, k3, rfl, -, -, -⟩ := hrt.parts
      replace hY := hY.below hb6 hY.lt
      have hB6 := below_via hB5 hb6 hB5.size
      have Hrt := Lib.hid (RType.fair.below hrt hb6)
      replace hS : (fun W' => World.cell? W' ⟨w.heap.size + 1, 0, none⟩ = some (.slice AR br.length cr) ∧ World.cell? W' ⟨gl, i * 4 + 1, none⟩ = some (.string pr)) w6 := HS.out _ hB6
      clear hb6 hrt hB5 hBd
      refine hK.out _ _ (fun _ _ => hS) ?_
      clear hK K
      try simp only [pu]
      refine ppP 7 ?_
      try simp only [pu]
      refine ppP 8 ?_
      try simp only [pu]
      refine ppP 9 ?_
      try simp only [pu]
      obtain ⟨c0, c1, c2, c3, c4⟩ := hY.five
      have f0 := hY.frozen 0
      have f1 := hY.frozen 1
      have f2 := hY.frozen 2
      have f3 := hY.frozen 3
      have f4 := hY.frozen 4
      have ly := hY.lt
      have hB7 := below_setCells hYd [.string tt.name, .bool tt.enum, .slice A1 tt.fields.length k1, .slice A2 tt.gone.length k2, .slice A3 tt.items.length k3] 0 _ hB6
      have hY7 := hY.setCells [.string tt.name, .bool tt.enum, .slice A1 tt.fields.length k1, .slice A2 tt.gone.length k2, .slice A3 tt.items.length k3] rfl
      have Hrt7 := Lib.hid (RType.fair.keep Hrt.out (Keep.setCells (S := Old w) (g := Y) (by show ¬ Y < w.heap.size; have := hws; omega) [.string tt.name, .bool tt.enum, .slice A1 tt.fields.length k1, .slice A2 tt.gone.length k2, .slice A3 tt.items.length k3] 0 w6))
      refine lateP_one (i := 11) rfl (by kernel_rfl) (fun K hK => ?_)
      go_simp
      refine hK.out _ _ (fun h => absurd h (by decide)) ?_
      clear hK K
      try simp only [pu]
      change anyP _ _ _ _ _ _ _ _ _ (Go.Proofs.YtfidfakcbjoilaaGreatDoor.setCells w6 Y 0 [.string tt.name, .bool tt.enum, .slice A1 tt.fields.length k1, .slice A2 tt.gone.length k2, .slice A3 tt.items.length k3])
      clear c0 c1 c2 c3 c4 f0 f1 f2 f3 f4 ly hB6 hY hS
      generalize (Go.Proofs.YtfidfakcbjoilaaGreatDoor.setCells w6 Y 0 _) = w7 at hB7 hY7 Hrt7 ⊢
      refine lateP_one (i := 12) rfl (by kernel_rfl) (fun K hK => ?_)
      go_simp
      refine hK.out _ _ (fun h => absurd h (by decide)) ?_
      clear hK K
      try simp only [pu]
      refine lateP_done (by kernel_rfl) ?_ _
      go_wp2_with fail
      go_meet
      case rel => exact ⟨Y, A1, k1, A2, k2, A3, k3, rfl, hYd, hY7, hB7, Hrt7.out⟩
    case rest =>
     obtain ⟨Y2, C1, m1, C2, m2, C3, m3, rfl, hY2d, hY2, hc2, hr2⟩ := hcut
     have hO2 := hO1.below RPair.fair hc2
     have hX2 := hX1.below hc2 hX1.lt
     have hZ2 := hZ1.below hc2 hZ1.lt
     have hG2 := below_via hG1 hc2 hG1.size
     have hYb := hY1.below hc2 hY1.lt
     have hr1' := RType.fair.below hr1 hc2
     clear hO1 hX1 hZ1 hG1 hY1 hr1 hfd HS hc2 z2 hgl1 l1' hws hY2d
     obtain ⟨V, hV⟩ : ∃ V, V = wc := ⟨_, rfl⟩
     subst hV
     have hwV : w.heap.size ≤ V.heap.size := hG2.size
     have hFl := (RType.rows_ hr1').1
     have HFl := Lib.hid (fun W (h : Below V.heap.size V W) => (RSl.fair RField.fair).below hFl h)
     have Hr2 := Lib.hid (fun W (h : Below V.heap.size V W) => RType.fair.below hr2 h)
     have y12 : V.cell? ⟨Y1, 2, none⟩ = some (.slice B1 t1.fields.length j1) := hYb.cell 2
     have y1l := hYb.lt
     have ht1m : t1 ∈ bw := by rw [Ht1.out]; exact typeOf_mem Hpf.out.1
     have httm : tt ∈ br := by rw [Htt.out]; exact typeOf_mem Hpf.out.2
     have Hmem := Lib.hid (show t1 ∈ bw ∧ tt ∈ br from ⟨ht1m, httm⟩)
     clear hr1' hFl hr2 ht1m httm
     go_wp2_with fail
     clear y12 y1l
     go_loopw [7, 50] (fun c7 c50 wr => ∃ (j : Nat) (l' : List PairD), c50 = .int .i64 j ∧ j ≤ t1.fields.length ∧ l'.length ≤ 16 ∧ Box wr w.heap.size 24 [.slice AW bw.length cw] ∧ Box wr (w.heap.size + 1) 24 [.slice AR br.length cr] ∧ Box wr Y2 46 [.string tt.name, .bool tt.enum, .slice C1 tt.fields.length m1, .slice C2 tt.gone.length m2, .slice C3 tt.items.length m3] ∧ Own w.heap.size 51 4 RPair NoT wr c7 l' ∧ Below w.heap.size w wr ∧ (Keep (Old w) V wr ∧ V.heap.size ≤ wr.heap.size) ∧ Hid (l' = (t1.fields.take j).foldl (pairStep i tt) l ∧ PairsOk bw br l')) (fun _ c50 _ => t1.fields.length - (intOf c50).toNat)
     case atStart => exact ⟨0, l, rfl, Nat.zero_le _, hl16, hX2, hZ2, hY2, hO2, hG2, ⟨Keep.refl _ _, Nat.le_refl _⟩, (show _ ∧ _ from ⟨rfl, HI.out.2.1⟩)⟩
     case round =>
      clear hX2 hZ2 hY2 hO2 hG2 hYb
      obtain ⟨j, l', rfl, hj, hl2, hX, hZ, hY, hO, hG, hKV, HJ⟩ := hrel
      by_cases hjl : j < t1.fields.length
      ·--[FLD
       have hjl' : (j : Int) < (t1.fields.length : Int) := by omega
       have hjz : (0 : Int) ≤ (j : Int) := by omega
       have hfz : t1.fields.length ≤ 100 := by
        cases he : t1.enum with
        | true => have := (good_enum HG.out.1 Hmem.out.1 he).2.2.2.1; omega
        | false => have := (good_msg HG.out.1 Hmem.out.1 he).1; omega
       have e2 : IntKind.i64.wrap ((j : Int) + 1) = (j : Int) + 1 := IntWalk.i64_in _ (by omega)
       have hFl := (RSl.fair RField.fair).keep (HFl.out V (Below.here V)) hKV.1
       obtain ⟨gf, of, es, rfl, hSf, hgf, -, hre, hcf⟩ := hFl.at_ hjl
       obtain ⟨f, hf⟩ : ∃ f, f = t1.fields[j] := ⟨_, rfl⟩
       rw [← hf] at hre
       have hes : es = fieldCells f := hre
       subst hes
       have hfm : f ∈ t1.fields := by rw [hf]; exact List.getElem_mem hjl
       have hstep : Hid ((t1.fields.take (j + 1)).foldl (pairStep i tt) l = pairStep i tt l' f) := by
        show _ = _
        rw [List.take_succ_eq_append_getElem hjl, List.foldl_append, ← HJ.out.1, ← hf]; rfl
       have hokst : Hid (PairsOk bw br (pairStep i tt l' f)) := (show PairsOk _ _ _ from pairs_step HJ.out.2 (fun h5 => field_found HG.out.1 Hmem.out.1 hfm (by omega)) (fun g hg h5 => field_found HG.out.2 Hmem.out.2 (fieldOf_in hg) (by omega)))
       have hlen := sixteen HG.out.1 HG.out.2 hokst.out
       obtain ⟨rg, hrg⟩ : ∃ rg, rg = fieldOf tt f.id := ⟨_, rfl⟩
       have hfo := Lib.hid (fun W (h : Keep (Old w) V W) => fieldOf_any (Old w) _ tt f.id W (RType.fair.keep (Hr2.out V (Below.here V)) h))
       rw [← hrg] at hfo
       have Hps : Hid (pairStep i tt l' f = stepO i l' f rg) := by show _ = _; rw [hrg]; rfl
       obtain ⟨fi, fn, ft, fk, fr⟩ := f
       dsimp only at hfo Hps
       have r0 : wr.cell? ⟨gf, of + j * 5, none⟩ = some (.int .i64 fi) := hcf.at_ 0 rfl
       have r1 : wr.cell? ⟨gf, of + j * 5 + 1, none⟩ = some (.string fn) := hcf.at_ 1 rfl
       have r2 : wr.cell? ⟨gf, of + j * 5 + 2, none⟩ = some (.string ft) := hcf.at_ 2 rfl
       have r3 : wr.cell? ⟨gf, of + j * 5 + 3, none⟩ = some (.int .i64 fk) := hcf.at_ 3 rfl
       have r4 : wr.cell? ⟨gf, of + j * 5 + 4, none⟩ = some (.int .i64 fr) := hcf.at_ 4 rfl
       have hF := Box.new wr 55 [.int .i64 fi, .string fn, .string ft, .int .i64 fk, .int .i64 fr]
       have hX3 := hX.alloc (.cells [.int .i64 fi, .string fn, .string ft, .int .i64 fk, .int .i64 fr].toArray 55)
       have hZ3 := hZ.alloc (.cells [.int .i64 fi, .string fn, .string ft, .int .i64 fk, .int .i64 fr].toArray 55)
       have hY3 := hY.alloc (.cells [.int .i64 fi, .string fn, .string ft, .int .i64 fk, .int .i64 fr].toArray 55)
       have hO3 := hO.alloc RPair.fair (.cells [.int .i64 fi, .string fn, .string ft, .int .i64 fk, .int .i64 fr].toArray 55)
       have hG3 := hG.alloc hG.size (.cells [.int .i64 fi, .string fn, .string ft, .int .i64 fk, .int .i64 fr].toArray 55)
       have hK3 := hKV.1.trans (Keep.alloc (Old w) wr (.cells [.int .i64 fi, .string fn, .string ft, .int .i64 fk, .int .i64 fr].toArray 55))
       have hs3 : V.heap.size ≤ (wr.alloc (.cells [.int .i64 fi, .string fn, .string ft, .int .i64 fk, .int .i64 fr].toArray 55)).heap.size := hK3.1
       clear hFl hSf hre hcf hf hfm hrg hX hZ hY hO hG hKV
       go_upto_region 10 with fail
       clear r0 r1 r2 r3 r4 hgf
       generalize wr.heap.size = F at hF ⊢
       generalize (World.alloc wr _) = w3 at hF hX3 hZ3 hY3 hO3 hG3 hK3 hs3 ⊢
       obtain ⟨y0, y1, y2, y3, y4⟩ := hY3.five
       have f0 : w3.cell? ⟨F, 0, none⟩ = some (.int .i64 fi) := hF.cell 0
       have fl := hF.lt
       have yl := hY3.lt
       go_wp2_with fail
       refine (hfo.out w3 hK3).mono ?_
       rintro e w4 ⟨rfl, hb4⟩
       have hF4 := hF.below hb4 hF.lt
       have hX4 := hX3.below hb4 hX3.lt
       have hZ4 := hZ3.below hb4 hZ3.lt
       have hY4 := hY3.below hb4 hY3.lt
       have hO4 := hO3.below RPair.fair hb4
       have hG4 := below_via hG3 hb4 hG3.size
       have hK4 := hK3.trans (Keep.of_below hb4 |>.mono (T := Old w) fun g h => h)
       have hfk := hF4.cell 3
       have hft := hF4.cell 2
       have hfi := hF4.cell 0
       have hF4l := hF4.lt
       clear hF hX3 hZ3 hY3 hO3 hG3 hK3 hs3 hb4 y0 y1 y2 y3 y4 f0 fl yl
       cases rg with
       | none =>
        simp only [Option.getD_none, Option.isSome_none]
        have hX5 := hX4.alloc (.cells (fieldCells FieldD.zero).toArray 55)
        have hZ5 := hZ4.alloc (.cells (fieldCells FieldD.zero).toArray 55)
        have hY5 := hY4.alloc (.cells (fieldCells FieldD.zero).toArray 55)
        have hO5 := hO4.alloc RPair.fair (.cells (fieldCells FieldD.zero).toArray 55)
        have hG5 := hG4.alloc hG4.size (.cells (fieldCells FieldD.zero).toArray 55)
        have hK5 := hK4.trans (Keep.alloc (Old w) w4 (.cells (fieldCells FieldD.zero).toArray 55))
        have HJ2 : Hid (l' = (t1.fields.take (j + 1)).foldl (pairStep i tt) l ∧ PairsOk bw br l') := (show _ ∧ _ from ⟨by rw [hstep.out, Hps.out]; rfl, HJ.out.2⟩)
        clear hX4 hZ4 hY4 hO4 hG4 hK4
        dsimp only [fieldCells, FieldD.zero] at hX5 hZ5 hY5 hO5 hG5 hK5 ⊢
        go_wp2_with fail
        go_roundw
        case rel => exact ⟨j + 1, l', by simp, by omega, hl2, hX5, hZ5, hY5, hO5, hG5, ⟨hK5, hK5.1⟩, HJ2⟩
        case measure => go_light; simp [intOf]; omega
       | some g =>
        obtain ⟨gi, gn, gt, gk, gr⟩ := g
        simp only [Option.getD_some, Option.isSome_some]
        dsimp only [fieldCells]
        have hX5 := hX4.alloc (.cells [.int .i64 gi, .string gn, .string gt, .int .i64 gk, .int .i64 gr].toArray 55)
        have hZ5 := hZ4.alloc (.cells [.int .i64 gi, .string gn, .string gt, .int .i64 gk, .int .i64 gr].toArray 55)
        have hY5 := hY4.alloc (.cells [.int .i64 gi, .string gn, .string gt, .int .i64 gk, .int .i64 gr].toArray 55)
        have hF5 := hF4.alloc (.cells [.int .i64 gi, .string gn, .string gt, .int .i64 gk, .int .i64 gr].toArray 55)
        have hO5 := hO4.alloc RPair.fair (.cells [.int .i64 gi, .string gn, .string gt, .int .i64 gk, .int .i64 gr].toArray 55)
        have hG5 := hG4.alloc hG4.size (.cells [.int .i64 gi, .string gn, .string gt, .int .i64 gk, .int .i64 gr].toArray 55)
        have hK5 := hK4.trans (Keep.alloc (Old w) w4 (.cells [.int .i64 gi, .string gn, .string gt, .int .i64 gk, .int .i64 gr].toArray 55))
        have hN5 := Box.new w4 55 [.int .i64 gi, .string gn, .string gt, .int .i64 gk, .int .i64 gr]
        clear hX4 hZ4 hY4 hO4 hG4 hK4 hF4 hfk hft hfi hF4l
        go_upto_region 11 with fail
        generalize w4.heap.size = N at hN5 ⊢
        generalize (World.alloc w4 _) = w5 at hX5 hZ5 hY5 hF5 hO5 hG5 hK5 hN5 ⊢
        have hfk : w5.cell? ⟨F, 3, none⟩ = some (.int .i64 fk) := hF5.cell 3
        have hgk : w5.cell? ⟨N, 3, none⟩ = some (.int .i64 gk) := hN5.cell 3
        have hFl := hF5.lt
        have hNl := hN5.lt
        by_cases h1 : fk = 5
        ·by_cases h2 : gk = 5
         ·--[FIVE
          subst h1 h2
          obtain ⟨hb, hhb⟩ : ∃ hb, hb = hasP l' ft gt := ⟨_, rfl⟩
          have hhas := Lib.hid (pairsHas_any (fun _ => True) _ l' F N ft gt w5 (hO5.read (by_ := 48) RPair.fair (fun _ _ _ => trivial) (fun _ _ => trivial) (by omega)) (hF5.cell 2) (hN5.cell 2))
          rw [← hhb] at hhas
          obtain ⟨A7, c7, rfl, hc7⟩ := hO5.form
          go_wp2_with fail
          refine hhas.out.mono ?_
          rintro e w6 ⟨rfl, hb6⟩
          have hX6 := hX5.below hb6 hX5.lt
          have hZ6 := hZ5.below hb6 hZ5.lt
          have hY6 := hY5.below hb6 hY5.lt
          have hF6 := hF5.below hb6 hF5.lt
          have hN6 := hN5.below hb6 hN5.lt
          have hO6 := hO5.below RPair.fair hb6
          have hG6 := below_via hG5 hb6 hG5.size
          have hK6 := hK5.trans (Keep.of_below hb6 |>.mono (T := Old w) fun g h => h)
          have hFt : w6.cell? ⟨F, 2, none⟩ = some (.string ft) := hF6.cell 2
          have hFi : w6.cell? ⟨F, 0, none⟩ = some (.int .i64 fi) := hF6.cell 0
          have hNt : w6.cell? ⟨N, 2, none⟩ = some (.string gt) := hN6.cell 2
          have hFl6 := hF6.lt
          have hNl6 := hN6.lt
          clear hX5 hZ5 hY5 hF5 hN5 hO5 hG5 hK5 hb6 hfk hgk hFl hNl
          cases hb with
          | true =>
           have HJ2 : Hid (l' = (t1.fields.take (j + 1)).foldl (pairStep i tt) l ∧ PairsOk bw br l') := (show _ ∧ _ from ⟨by rw [hstep.out, Hps.out, stepO, if_neg (fun h => by have := h.2.2; rw [← hhb] at this; cases this)], HJ.out.2⟩)
           clear hhb
           go_wp2_with fail
           go_roundw
           case rel => exact ⟨j + 1, l', by simp, by omega, hl2, hX6, hZ6, hY6, hO6, hG6, ⟨hK6, hK6.1⟩, HJ2⟩
           case measure => go_light; simp [intOf]; omega
          | false =>
           have Hl : Hid (pairStep i tt l' ⟨fi, fn, ft, 5, fr⟩ = l' ++ [⟨ft, gt, i, fi⟩]) := by show _ = _; rw [Hps.out, stepO, if_pos ⟨rfl, rfl, hhb.symm⟩]
           have HJ2 : Hid (l' ++ [⟨ft, gt, i, fi⟩] = (t1.fields.take (j + 1)).foldl (pairStep i tt) l ∧ PairsOk bw br (l' ++ [⟨ft, gt, i, fi⟩])) := (show _ ∧ _ from ⟨by rw [hstep.out, Hl.out], by rw [← Hl.out]; exact hokst.out⟩)
           have hlen2 : l'.length + 1 ≤ 16 := by rw [Hl.out, List.length_append] at hlen; exact hlen
           clear hhb
           go_wp2_with (at_builtin; go_must (refine wl_append _ rfl (.tmp 77) (.tmp 86) rfl sl_pairs RPair.fair rfl rfl (hO6.alloc RPair.fair _) (Src.one (es := [.string ft, .string gt, .int .i64 i, .int .i64 fi]) (y := PairD.mk ft gt i fi) rfl (Ones.of_all rfl) rfl (Lies.newAt (by first | rfl | simp [World.setCell]))) (NoT.lt _) ?_ ?_ ?_))
           ·go_light; simp only [List.length_cons, List.length_nil]; omega
           ·go_light; simp only [World.size_alloc]; have := hG6.size; omega
           ·intro v7 w7 hO7 hg7 hv7
            have hOa := hO6.alloc RPair.fair (.cells #[.string ft, .string gt, .int .i64 i, .int .i64 fi] 51)
            have hX7 := (hX6.alloc (.cells #[.string ft, .string gt, .int .i64 i, .int .i64 fi] 51)).grown hg7 (hX6.alloc (.cells #[.string ft, .string gt, .int .i64 i, .int .i64 fi] 51) |>.ne_own hOa (by decide))
            have hZ7 := (hZ6.alloc (.cells #[.string ft, .string gt, .int .i64 i, .int .i64 fi] 51)).grown hg7 (hZ6.alloc (.cells #[.string ft, .string gt, .int .i64 i, .int .i64 fi] 51) |>.ne_own hOa (by decide))
            have hY7 := (hY6.alloc (.cells #[.string ft, .string gt, .int .i64 i, .int .i64 fi] 51)).grown hg7 (hY6.alloc (.cells #[.string ft, .string gt, .int .i64 i, .int .i64 fi] 51) |>.ne_own hOa (by decide))
            have hG7 := below_grown (hG6.alloc hG6.size (.cells #[.string ft, .string gt, .int .i64 i, .int .i64 fi] 51)) hg7 (by simp only [World.size_alloc]; have := hG6.size; omega) (fun g' h => (hO6.lt h).1)
            have hK7 := (hK6.trans (Keep.alloc (Old w) w6 (.cells #[.string ft, .string gt, .int .i64 i, .int .i64 fi] 51))).trans (Keep.of_grown hg7 (fun k hk h => by have := (hO6.lt hk).1; have h' : k < w.heap.size := h; omega))
            clear hX6 hZ6 hY6 hO6 hG6 hK6 hF6 hN6 hFt hFi hNt hFl6 hNl6 hOa hg7 hv7
            have Hlen2 := Lib.hid hlen2
            go_wp2_with fail
            go_roundw
            case rel => exact ⟨j + 1, l' ++ [⟨ft, gt, i, fi⟩], by simp, by omega, by rw [List.length_append]; exact Hlen2.out, hX7, hZ7, hY7, hO7, hG7, ⟨hK7, hK7.1⟩, HJ2⟩
            case measure => go_light; simp [intOf]; omega
         ·--[NO2
          have HJ2 : Hid (l' = (t1.fields.take (j + 1)).foldl (pairStep i tt) l ∧ PairsOk bw br l') := (show _ ∧ _ from ⟨by rw [hstep.out, Hps.out, stepO, if_neg (fun h => h2 h.2.1)], HJ.out.2⟩)
          go_wp2_with fail
          go_roundw
          case rel => exact ⟨j + 1, l', by simp, by omega, hl2, hX5, hZ5, hY5, hO5, hG5, ⟨hK5, hK5.1⟩, HJ2⟩
          case measure => go_light; simp [intOf]; omega
        ·--[NO1
         have HJ2 : Hid (l' = (t1.fields.take (j + 1)).foldl (pairStep i tt) l ∧ PairsOk bw br l') := (show _ ∧ _ from ⟨by rw [hstep.out, Hps.out, stepO, if_neg (fun h => h1 h.1)], HJ.out.2⟩)
         go_wp2_with fail
         go_roundw
         case rel => exact ⟨j + 1, l', by simp, by omega, hl2, hX5, hZ5, hY5, hO5, hG5, ⟨hK5, hK5.1⟩, HJ2⟩
         case measure => go_light; simp [intOf]; omega
      ·--[FEND
       obtain rfl : j = t1.fields.length := by omega
       have HI2 : Hid (i + 1 + (k - 1) = 18 ∧ PairsOk bw br l' ∧ P = pairsGo bw br (k - 1) (i + 1) l') := by
        obtain ⟨a1, a2, a3⟩ := HI.out
        obtain ⟨b1, b2⟩ := HJ.out
        rw [List.take_length] at b1
        refine (show _ ∧ _ from ⟨by omega, b2, ?_⟩)
        obtain ⟨k', rfl⟩ : ∃ k', k = k' + 1 := ⟨k - 1, by omega⟩
        rw [a3, pairsGo, List.getElem?_eq_getElem hlt, ← Hp.out, b1, Nat.add_sub_cancel, Ht1.out, Htt.out]
        rfl
       have hgrow : i + 1 ≤ l'.length := by
        obtain ⟨b1, -⟩ := HJ.out
        obtain ⟨m, hm⟩ := step_grows i tt (t1.fields.take t1.fields.length) l
        rw [hm] at b1
        rw [b1, List.length_append]; omega
       have Hgr := Lib.hid hgrow
       clear hj hjl hgrow
       go_wp2_with fail
       go_roundw
       case rel => exact ⟨i + 1, k - 1, l', by simp, Hgr.out, hl2, hX, hZ, hO, hG, HI2⟩
       case measure => go_light; have := Hgr.out; simp [intOf]; omega
  ·--[END
   have HPl : Hid (P = l) := by
    show _ = _
    have h2 := HI.out.2.2
    obtain ⟨k', rfl⟩ : ∃ k', k = k' + 1 := ⟨k - 1, by have := HI.out.1; omega⟩
    rw [h2, pairsGo, List.getElem?_eq_none (by omega)]
   have hn : ¬ (i : Int) < (l.length : Int) := by omega
   have HRd := Lib.hid (hO.read (S := New w) (by_ := 48) RPair.fair (fun _ h _ => h.elim) (fun k e => (hO.lt e).1) (by omega))
   clear hO
   go_wp2_with fail
   go_ret
   exact ⟨_, rfl, by rw [HPl.out]; exact HRd.out, hG⟩
end Go.Proofs.YtfidfakcbjoilaaGreatDoor
