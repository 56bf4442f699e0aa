/- The comparison of flaws (compat.Flaws$1), cmp.Or at int. -/
import Derived.Test.YtfidfakcbjoilaaGreatDoorWhys
import Derived.Test.YtfidfakcbjoilaaGreatDoorLates
import Derived.Shelf.SlSortCmp.WholeK
set_option linter.all false
set_option maxRecDepth 100000
set_option maxHeartbeats 8000000
namespace Go.Proofs.YtfidfakcbjoilaaGreatDoor
open Go.RowKit
open Go.Sort (grow alloc_eq_grow grow_grow)
def orL (l : List Int) : Int := (l.find? fun x => x != 0).getD 0
theorem or_any (S : Nat → Prop) (v : Value) (l : List Int) (w : World) (h : RSl 1 8 RInt S w [v] l) : Calls Tryz.prog 22 #[v] w (Pur w (.int .i64 (orL l))) := by
 obtain ⟨A, c, rfl, -, hnb⟩ := h.form
 obtain ⟨p, hp⟩ : ∃ p, p = orL l := ⟨_, rfl⟩
 have Hp : Hid (p = (l.find? fun x => x != 0).getD 0) := hp
 rw [← hp]
 have HN := Lib.hid h
 have hll : l.length ≤ 17592186043904 * 2 := by omega
 clear h hp hnb
 go_enter Tryz.func22, Tryz.ntmps22
 go_wp2_with fail
 go_loop [8] (fun c => ∃ k : Nat, c = .int .i64 k ∧ k ≤ l.length ∧ Hid (p = ((l.drop k).find? fun x => x != 0).getD 0)) (fun c => l.length - (intOf c).toNat)
 case atStart => exact ⟨0, rfl, Nat.zero_le _, Hp⟩
 case round =>
  obtain ⟨k, rfl, hk, HP⟩ := hrel
  by_cases hlt : k < l.length
  ·have hlt' : (k : Int) < (l.length : Int) := by omega
   obtain ⟨g2, o2, rfl, hS2, hg2⟩ := HN.out.base (by omega)
   have hc3 := HN.out.flat (enc := fun x => [.int .i64 x]) hlt
   obtain ⟨x, hxe⟩ : ∃ x, x = l[k] := ⟨_, rfl⟩
   rw [← hxe] at hc3
   have q0 : w.cell? ⟨g2, o2 + k, none⟩ = some (.int .i64 x) := by have := hc3.at_ 0 rfl; simpa using this
   have hP1 : Hid (p = if x = 0 then ((l.drop (k + 1)).find? fun x => x != 0).getD 0 else x) := by
    show _ = _
    rw [HP.out, List.drop_eq_getElem_cons hlt, ← hxe, List.find?_cons]
    by_cases h0 : x = 0
    ·subst h0; rfl
    ·rw [show (x != 0) = true by simpa using h0, if_neg h0]; rfl
   clear hc3 hxe HP
   by_cases h0 : x = 0
   ·subst h0
    have hP2 : Hid (p = ((l.drop (k + 1)).find? fun x => x != 0).getD 0) := hP1
    clear hP1
    go_wp2_with fail
    go_round
    case rel => exact ⟨k + 1, by simp, by omega, hP2⟩
    case measure => simp [intOf]; omega
   ·have hP2 : Hid (p = x) := by show _ = _; rw [hP1.out, if_neg h0]
    clear hP1
    go_wp2_with fail
    go_ret
    exact ⟨by rw [hP2.out]; rfl, rfl⟩
  ·have hP1 : Hid (p = 0) := by show _ = _; rw [HP.out, List.drop_eq_nil_of_le (by omega)]; rfl
   clear HP
   go_wp2_with fail
   go_ret
   exact ⟨by rw [hP1.out]; rfl, rfl⟩
def flawC (x y : FlawD) : Int := orL [Lib.compareBytes x.type.data.toList y.type.data.toList, Lib.compareInt x.id y.id, Lib.compareInt x.why y.why]
theorem flawCmp_any (x y : FlawD) (w : World) :
  Calls Tryz.prog 21 #[.agg (flawCells x).toArray, .agg (flawCells y).toArray] w fun e w' => e = .returned (.int .i64 (flawC x y)) ∧ ∃ q os', w' = grow (w.drewN q) os' := by
 obtain ⟨xt, xi, xw⟩ := x
 obtain ⟨yt, yi, yw⟩ := y
 show Calls _ _ #[.agg #[.string xt, .int .i64 xi, .int .i64 xw], .agg #[.string yt, .int .i64 yi, .int .i64 yw]] _ _
 obtain ⟨x1, x2, x3⟩ := boxes2 w [.string xt, .int .i64 xi, .int .i64 xw] [.string yt, .int .i64 yi, .int .i64 yw] 60 60
 obtain ⟨p, hp⟩ : ∃ p, p = flawC ⟨xt, xi, xw⟩ ⟨yt, yi, yw⟩ := ⟨_, rfl⟩
 rw [← hp]
 have HC := Lib.hid (fun W => Tryz.strings_Compare xt yt W)
 have HI := Lib.hid (fun W => Tryz.cmp_Compare_int xi yi W)
 have HJ := Lib.hid (fun W => Tryz.cmp_Compare_int xw yw W)
 have Hp : Hid (p = orL [Lib.compareBytes xt.data.toList yt.data.toList, Lib.compareInt xi yi, Lib.compareInt xw yw]) := hp
 clear hp
 obtain ⟨c1, hc1⟩ : ∃ c, c = Lib.compareBytes xt.data.toList yt.data.toList := ⟨_, rfl⟩
 obtain ⟨c2, hc2⟩ : ∃ c, c = Lib.compareInt xi yi := ⟨_, rfl⟩
 obtain ⟨c3, hc3⟩ : ∃ c, c = Lib.compareInt xw yw := ⟨_, rfl⟩
 rw [← hc1, ← hc2, ← hc3] at Hp
 rw [← hc1] at HC
 rw [← hc2] at HI
 rw [← hc3] at HJ
 clear hc1 hc2 hc3
 go_enter Tryz.func21, Tryz.ntmps21
 go_upto_region 1 with fail
 refine lateP_start (fun W' => (World.cell? W' ⟨w.heap.size, 0, none⟩ = some (.string xt) ∧ World.cell? W' ⟨w.heap.size, 1, none⟩ = some (.int .i64 xi) ∧ World.cell? W' ⟨w.heap.size, 2, none⟩ = some (.int .i64 xw)) ∧
  World.cell? W' ⟨w.heap.size + 1, 0, none⟩ = some (.string yt) ∧ World.cell? W' ⟨w.heap.size + 1, 1, none⟩ = some (.int .i64 yi) ∧ World.cell? W' ⟨w.heap.size + 1, 2, none⟩ = some (.int .i64 yw)) (fun i => decide (i < 15)) (by kernel_rfl) ?_
 have hS := (show (fun W' => (World.cell? W' ⟨w.heap.size, 0, none⟩ = some (.string xt) ∧ World.cell? W' ⟨w.heap.size, 1, none⟩ = some (.int .i64 xi) ∧ World.cell? W' ⟨w.heap.size, 2, none⟩ = some (.int .i64 xw)) ∧
  World.cell? W' ⟨w.heap.size + 1, 0, none⟩ = some (.string yt) ∧ World.cell? W' ⟨w.heap.size + 1, 1, none⟩ = some (.int .i64 yi) ∧ World.cell? W' ⟨w.heap.size + 1, 2, none⟩ = some (.int .i64 yw)) _ from ⟨⟨x1.drew.cell 0, x1.drew.cell 1, x1.drew.cell 2⟩, x2.drew.cell 0, x2.drew.cell 1, x2.drew.cell 2⟩)
 clear x1 x2 x3
 have hgr : ∃ q os', ((w.alloc (.cells #[.string xt, .int .i64 xi, .int .i64 xw] 60)).alloc (.cells #[.string yt, .int .i64 yi, .int .i64 yw] 60)).drew = grow (w.drewN q) os' := ⟨1, _, by rw [alloc_eq_grow, alloc_eq_grow, grow_grow]; rfl⟩
 generalize (World.drew _) = Wd at hS hgr ⊢
 refine ppP 0 ?_
 try simp only [pu]
 refine tkP 1 hS ?_
 try simp only [pu]
 refine ppP 2 ?_
 try simp only [pu]
 refine tkP 3 hS ?_
 try simp only [pu]
 refine ppP 5 ?_
 try simp only [pu]
 refine tkP 6 hS ?_
 try simp only [pu]
 refine ppP 7 ?_
 try simp only [pu]
 refine tkP 8 hS ?_
 try simp only [pu]
 refine ppP 10 ?_
 try simp only [pu]
 refine tkP 11 hS ?_
 try simp only [pu]
 refine ppP 12 ?_
 try simp only [pu]
 refine tkP 13 hS ?_
 try simp only [pu]
 refine lateP_one (i := 4) rfl (by kernel_rfl) (fun K hK => ?_)
 go_simp
 refine (HC.out _).mono ?_
 rintro e w1 ⟨rfl, h1⟩
 rw [h1]
 clear h1 w1
 refine hK.out _ _ (fun _ _ => hS) ?_
 clear hK K
 try simp only [pu]
 refine lateP_one (i := 9) rfl (by kernel_rfl) (fun K hK => ?_)
 go_simp
 refine (HI.out _).mono ?_
 rintro e w1 ⟨rfl, h1⟩
 rw [h1]
 clear h1 w1
 refine hK.out _ _ (fun _ _ => hS) ?_
 clear hK K
 try simp only [pu]
 refine lateP_one (i := 14) rfl (by kernel_rfl) (fun K hK => ?_)
 go_simp
 refine (HJ.out _).mono ?_
 rintro e w1 ⟨rfl, h1⟩
 rw [h1]
 clear h1 w1
 refine hK.out _ _ (fun _ _ => hS) ?_
 clear hK K
 try simp only [pu]
 refine lateP_one (i := 15) rfl (by kernel_rfl) (fun K hK => ?_)
 go_simp
 refine hK.out _ _ (fun h => absurd h (by decide)) ?_
 clear hK K
 try simp only [pu]
 have hl : RSl 1 8 RInt (Old (Wd.alloc (.cells #[.int .i64 c1, .int .i64 c2, .int .i64 c3] 3))) (Wd.alloc (.cells #[.int .i64 c1, .int .i64 c2, .int .i64 c3] 3)) [.slice (some ⟨Wd.heap.size, 0, none⟩) 3 3] [c1, c2, c3] :=
  RSl.of_box_flat (enc := fun x => [.int .i64 x]) (xs := [c1, c2, c3]) (Box.new Wd 3 [.int .i64 c1, .int .i64 c2, .int .i64 c3]) (show Wd.heap.size < _ by simp) (Nat.le_refl _) (by show 3 * 8 ≤ _; decide) (fun x hx => rfl)
 have HO := Lib.hid (or_any _ _ _ _ hl)
 rw [← Hp.out] at HO
 clear hl hS
 refine lateP_one (i := 16) rfl (by kernel_rfl) (fun K hK => ?_)
 go_simp
 refine HO.out.mono ?_
 rintro e w1 ⟨rfl, h1⟩
 rw [h1]
 clear h1 w1
 refine hK.out _ _ (fun h => absurd h (by decide)) ?_
 clear hK K
 try simp only [pu]
 refine lateP_one (i := 17) rfl (by kernel_rfl) (fun K hK => ?_)
 go_simp
 refine hK.out _ _ (fun h => absurd h (by decide)) ?_
 clear hK K
 try simp only [pu]
 refine lateP_done (by kernel_rfl) ?_ _
 go_wp2_with fail
 go_ret
 obtain ⟨q, os, rfl⟩ := hgr
 exact ⟨rfl, q, _, by rw [alloc_eq_grow, grow_grow]⟩
end Go.Proofs.YtfidfakcbjoilaaGreatDoor
