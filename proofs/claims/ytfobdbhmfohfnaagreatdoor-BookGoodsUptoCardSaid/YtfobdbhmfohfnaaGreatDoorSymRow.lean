/- The walks of the sort of the reader's rows (Row): symMerge. -/
import Derived.Test.YtfobdbhmfohfnaaGreatDoorProg
import Derived.Test.YtfobdbhmfohfnaaGreatDoorBase
import Derived.Test.YtfobdbhmfohfnaaGreatDoorRotRow
import Derived.Test.YtfobdbhmfohfnaaGreatDoorLates
import Derived.Deep.DrawnRows
import Derived.Deep.Light
import Derived.Deep.DeepCutAuto
set_option linter.all false
set_option maxRecDepth 100000
set_option maxHeartbeats 8000000
namespace Go.Proofs.YtfobdbhmfohfnaaGreatDoor
open Go.RowKit
attribute [local go_sem ↓] Go.wp_at_zero Go.wp_at_succ
variable {L : List TypeC}
theorem wrap_u64 (x : Int) (h0 : 0 ≤ x) (h1 : x < 18446744073709551616) : IntKind.u64.wrap x = x := IntWalk.u64_in x ⟨h0, by omega⟩
def SymRowAt (d : Nat) : Prop := ∀ (base : Nat) (T : Nat → Prop) (g cap : Nat) (xs : List TypeC) (w : World) (ho : Own base 40 5 RTypeC T w (Value.slice (some ⟨g, 0, none⟩) xs.length cap) xs) (hn : xs.length ≤ 1000000) (hq : xs.Perm L) (a m b : Nat), a < m → m < b → b ≤ xs.length → b - a ≤ d →
  Calls Tryz.prog 91 #[Value.slice (some ⟨g, 0, none⟩) xs.length cap, .int .i64 a, .int .i64 m, .int .i64 b, (Value.func (Fn.func 40) #[] #[])] w (WeakRow (L := L) base T g cap xs w)
theorem symRow_succ (d : Nat) (IH0 : SymRowAt (L := L) d) : SymRowAt (L := L) (d + 1) := by
 intro base T g cap xs w ho hn hq a m b ham hmb hb hd
 have HO := Lib.hid ho
 have HQ := Lib.hid hq
 obtain ⟨n, hnn⟩ : ∃ n, n = xs.length := ⟨_, rfl⟩
 have hrot := fun (zs : List TypeC) (W : World) (hl : zs.length = xs.length) (hO : Own base 40 5 RTypeC T W (Value.slice (some ⟨g, 0, none⟩) zs.length cap) zs) (hQ : zs.Perm L) (a m b : Nat) (h1 : a < m) (h2 : m < b) (h3 : b ≤ zs.length) => rotRow_any base T g cap zs W hO (by omega) hQ a m b h1 h2 h3
 have hih := fun (zs : List TypeC) (W : World) (hl : zs.length = xs.length) (hO : Own base 40 5 RTypeC T W (Value.slice (some ⟨g, 0, none⟩) zs.length cap) zs) (hQ : zs.Perm L) (a m b : Nat) (h1 : a < m) (h2 : m < b) (h3 : b ≤ zs.length) (h4 : b - a ≤ d) => IH0 base T g cap zs W hO (by omega) hQ a m b h1 h2 h3 h4
 have Hrot := Lib.hid hrot
 have Hih := Lib.hid hih
 rw [← hnn] at hb hn HO Hrot Hih ⊢
 have Hnn := Lib.hid hnn
 have e1 : IntKind.i64.wrap ((m : Int) - a) = (m : Int) - a := IntWalk.i64_in _ (by omega)
 have e2 : IntKind.i64.wrap ((b : Int) - m) = (b : Int) - m := IntWalk.i64_in _ (by omega)
 clear ho hq hnn hrot hih IH0
 go_enter Tryz.func91, Tryz.ntmps91
 by_cases hma : m - a = 1
 ·--[M1
  have em : ((m : Int) - a == 1) = true := by simp; omega
  go_wp2_with fail
  clear e1 e2 em
  go_loopw [10, 11] (fun c10 c11 wr => ∃ (i j : Nat) (zs : List TypeC), c10 = .int .i64 i ∧ c11 = .int .i64 j ∧ m ≤ i ∧ i ≤ j ∧ j ≤ b ∧ zs.length = n ∧ (zs.Perm L) ∧ Own base 40 5 RTypeC T wr (Value.slice (some ⟨g, 0, none⟩) n cap) zs ∧ w.grownBy wr (some g)) (fun c10 c11 _ => (intOf c11).toNat - (intOf c10).toNat)
  case atStart => exact ⟨m, b, xs, rfl, rfl, Nat.le_refl _, by omega, Nat.le_refl _, Hnn.out.symm, HQ.out, HO.out, grown_below (Below.refl _ _) _⟩
  case round =>
   obtain ⟨i, j, zs, rfl, rfl, hmi, hij, hjb, hzl, hQ, hO, hG⟩ := hrel
   by_cases hlt : i < j
   ·obtain ⟨hh, hhe⟩ : ∃ h, h = (i + j) / 2 := ⟨_, rfl⟩
    obtain ⟨q, hqe⟩ : ∃ q, q = hh := ⟨_, rfl⟩
    obtain ⟨p, hpe⟩ : ∃ p, p = a := ⟨_, rfl⟩
    have hz1 : q < zs.length := by omega
    have hz0 : p < zs.length := by omega
    obtain ⟨ra, la⟩ := elemRow hO hz1
    obtain ⟨rb, lb⟩ := elemRow hO hz0
    have hc : (fun W' => (World.cell? W' ⟨g, q * 5, none⟩ = some (.string zs[q].name) ∧ World.cell? W' ⟨g, q * 5 + 1, none⟩ = some (.bool zs[q].enum) ∧ World.cell? W' ⟨g, q * 5 + 2, none⟩ = some (.slice zs[q].F zs[q].f zs[q].p) ∧ World.cell? W' ⟨g, q * 5 + 3, none⟩ = some (.slice zs[q].G zs[q].g zs[q].q) ∧ World.cell? W' ⟨g, q * 5 + 4, none⟩ = some (.slice zs[q].I zs[q].i zs[q].r)) ∧ (World.cell? W' ⟨g, p * 5, none⟩ = some (.string zs[p].name) ∧ World.cell? W' ⟨g, p * 5 + 1, none⟩ = some (.bool zs[p].enum) ∧ World.cell? W' ⟨g, p * 5 + 2, none⟩ = some (.slice zs[p].F zs[p].f zs[p].p) ∧ World.cell? W' ⟨g, p * 5 + 3, none⟩ = some (.slice zs[p].G zs[p].g zs[p].q) ∧ World.cell? W' ⟨g, p * 5 + 4, none⟩ = some (.slice zs[p].I zs[p].i zs[p].r))) wr := ⟨⟨(by have := la.at_ 0 rfl; simpa using this), la.at_ 1 rfl, la.at_ 2 rfl, la.at_ 3 rfl, la.at_ 4 rfl⟩, ⟨(by have := lb.at_ 0 rfl; simpa using this), lb.at_ 1 rfl, lb.at_ 2 rfl, lb.at_ 3 rfl, lb.at_ 4 rfl⟩⟩
    have qA : QRow zs[q] := trivial
    have qB : QRow zs[p] := trivial
    have HQs := Lib.hid (swap_perm hz1 hz0 hQ)
    have HQz := Lib.hid hQ
    have hOs := fun (W' : World) (hO' : Own base 40 5 RTypeC T W' (Value.slice (some ⟨g, 0, none⟩) zs.length cap) zs) (hr : RTypeC T W' [.string zs[p].name, .bool zs[p].enum, .slice zs[p].F zs[p].f zs[p].p, .slice zs[p].G zs[p].g zs[p].q, .slice zs[p].I zs[p].i zs[p].r] zs[p]) => hO'.store RTypeC.fair hz1 (cs := [.string zs[p].name, .bool zs[p].enum, .slice zs[p].F zs[p].f zs[p].p, .slice zs[p].G zs[p].g zs[p].q, .slice zs[p].I zs[p].i zs[p].r]) (x := zs[p]) rfl hr
    have hOt := fun (W' : World) (hO' : Own base 40 5 RTypeC T W' (Value.slice (some ⟨g, 0, none⟩) (zs.set q zs[p]).length cap) (zs.set q zs[p])) (hr : RTypeC T W' [.string zs[q].name, .bool zs[q].enum, .slice zs[q].F zs[q].f zs[q].p, .slice zs[q].G zs[q].g zs[q].q, .slice zs[q].I zs[q].i zs[q].r] zs[q]) => hO'.store RTypeC.fair (i := p) (by rw [List.length_set]; exact hz0) (cs := [.string zs[q].name, .bool zs[q].enum, .slice zs[q].F zs[q].f zs[q].p, .slice zs[q].G zs[q].g zs[q].q, .slice zs[q].I zs[q].i zs[q].r]) (x := zs[q]) rfl hr
    have hnT : ¬ T g := own_not hO
    have hlr := own_lt hO
    clear la lb
    obtain ⟨A, hA⟩ : ∃ A, A = zs[q] := ⟨_, rfl⟩
    obtain ⟨B, hB⟩ : ∃ B, B = zs[p] := ⟨_, rfl⟩
    rw [← hA] at hc ra qA HQs hOt
    rw [← hB] at hc rb qB HQs hOs hOt
    obtain ⟨axn, axe, axF, axf, axp, axG, axg, axq, axI, axi, axr⟩ := A
    obtain ⟨bxn, bxe, bxF, bxf, bxp, bxG, bxg, bxq, bxI, bxi, bxr⟩ := B
    dsimp only at hc ra rb hOs hOt
    have Hra := Lib.hid ra
    have Hrb := Lib.hid rb
    have HOs := Lib.hid hOs
    have HOt := Lib.hid hOt
    have HnT := Lib.hid hnT
    have HqA := Lib.hid qA
    have HqB := Lib.hid qB
    clear hQ qA qB hA hB hOs hOt ra rb hnT
    have es : IntKind.i64.wrap ((i : Int) + j) = (i : Int) + j := IntWalk.i64_in _ (by omega)
    have eu : IntKind.u64.wrap ((i : Int) + j) = (i : Int) + j := wrap_u64 _ (by omega) (by omega)
    have eh : ((i : Int) + j) / 2 = (hh : Int) := by omega
    have ei : IntKind.i64.wrap (hh : Int) = (hh : Int) := IntWalk.i64_in _ (by omega)
    have ev : IntKind.u64.wrap (hh : Int) = (hh : Int) := wrap_u64 _ (by omega) (by omega)
    have e7 : IntKind.i64.wrap ((hh : Int) + 1) = (hh : Int) + 1 := IntWalk.i64_in _ (by omega)
    have hq1n : (q : Int) < n := by omega
    have hq0n : (p : Int) < n := by omega
    have hb2 : i ≤ hh ∧ hh < j := by omega
    subst hqe hpe
    clear hhe
    go_upto_region 5 with fail
    clear es eu eh
    have hw := below_drew (Below.refl wr.heap.size wr)
    have hS : (fun W' => (World.cell? W' ⟨g, q * 5, none⟩ = some (.string axn) ∧ World.cell? W' ⟨g, q * 5 + 1, none⟩ = some (.bool axe) ∧ World.cell? W' ⟨g, q * 5 + 2, none⟩ = some (.slice axF axf axp) ∧ World.cell? W' ⟨g, q * 5 + 3, none⟩ = some (.slice axG axg axq) ∧ World.cell? W' ⟨g, q * 5 + 4, none⟩ = some (.slice axI axi axr)) ∧ (World.cell? W' ⟨g, p * 5, none⟩ = some (.string bxn) ∧ World.cell? W' ⟨g, p * 5 + 1, none⟩ = some (.bool bxe) ∧ World.cell? W' ⟨g, p * 5 + 2, none⟩ = some (.slice bxF bxf bxp) ∧ World.cell? W' ⟨g, p * 5 + 3, none⟩ = some (.slice bxG bxg bxq) ∧ World.cell? W' ⟨g, p * 5 + 4, none⟩ = some (.slice bxI bxi bxr))) wr.drew := hc
    have hld : g < wr.drew.heap.size := hlr
    refine lateP_start (fun W' => (World.cell? W' ⟨g, q * 5, none⟩ = some (.string axn) ∧ World.cell? W' ⟨g, q * 5 + 1, none⟩ = some (.bool axe) ∧ World.cell? W' ⟨g, q * 5 + 2, none⟩ = some (.slice axF axf axp) ∧ World.cell? W' ⟨g, q * 5 + 3, none⟩ = some (.slice axG axg axq) ∧ World.cell? W' ⟨g, q * 5 + 4, none⟩ = some (.slice axI axi axr)) ∧ (World.cell? W' ⟨g, p * 5, none⟩ = some (.string bxn) ∧ World.cell? W' ⟨g, p * 5 + 1, none⟩ = some (.bool bxe) ∧ World.cell? W' ⟨g, p * 5 + 2, none⟩ = some (.slice bxF bxf bxp) ∧ World.cell? W' ⟨g, p * 5 + 3, none⟩ = some (.slice bxG bxg bxq) ∧ World.cell? W' ⟨g, p * 5 + 4, none⟩ = some (.slice bxI bxi bxr))) (fun _ => true) (by kernel_rfl) ?_
    generalize wr.drew = Wd at hw hS hld ⊢
    clear hc
    refine ppP 0 ?_
    try simp only [pu]
    refine ppP 1 ?_
    try simp only [pu]
    refine ppP 2 ?_
    try simp only [pu]
    refine ppP 3 ?_
    try simp only [pu]
    refine tkP 4 hS ?_
    try simp only [pu]
    refine ppP 5 ?_
    try simp only [pu]
    refine ppP 6 ?_
    try simp only [pu]
    refine ppP 7 ?_
    try simp only [pu]
    refine tkP 8 hS ?_
    try simp only [pu]
    refine lateP_one (i := 9) rfl (by kernel_rfl) (fun K hK => ?_)
    go_simp
    refine (cmpRow_any T T ⟨axn, axe, axF, axf, axp, axG, axg, axq, axI, axi, axr⟩ ⟨bxn, bxe, bxF, bxf, bxp, bxG, bxg, bxq, bxI, bxi, bxr⟩ _ _ _ (RTypeC.fair.below Hra.out hw) (RTypeC.fair.below Hrb.out hw) HqA.out HqB.out).mono ?_
    rintro e w5 ⟨rfl, hb5⟩
    replace hS : (fun W' => (World.cell? W' ⟨g, q * 5, none⟩ = some (.string axn) ∧ World.cell? W' ⟨g, q * 5 + 1, none⟩ = some (.bool axe) ∧ World.cell? W' ⟨g, q * 5 + 2, none⟩ = some (.slice axF axf axp) ∧ World.cell? W' ⟨g, q * 5 + 3, none⟩ = some (.slice axG axg axq) ∧ World.cell? W' ⟨g, q * 5 + 4, none⟩ = some (.slice axI axi axr)) ∧ (World.cell? W' ⟨g, p * 5, none⟩ = some (.string bxn) ∧ World.cell? W' ⟨g, p * 5 + 1, none⟩ = some (.bool bxe) ∧ World.cell? W' ⟨g, p * 5 + 2, none⟩ = some (.slice bxF bxf bxp) ∧ World.cell? W' ⟨g, p * 5 + 3, none⟩ = some (.slice bxG bxg bxq) ∧ World.cell? W' ⟨g, p * 5 + 4, none⟩ = some (.slice bxI bxi bxr))) w5 := ⟨⟨(hb5.cell (p := ⟨g, q * 5, none⟩) hld).trans hS.1.1, (hb5.cell (p := ⟨g, q * 5 + 1, none⟩) hld).trans hS.1.2.1, (hb5.cell (p := ⟨g, q * 5 + 2, none⟩) hld).trans hS.1.2.2.1, (hb5.cell (p := ⟨g, q * 5 + 3, none⟩) hld).trans hS.1.2.2.2.1, (hb5.cell (p := ⟨g, q * 5 + 4, none⟩) hld).trans hS.1.2.2.2.2⟩, ⟨(hb5.cell (p := ⟨g, p * 5, none⟩) hld).trans hS.2.1, (hb5.cell (p := ⟨g, p * 5 + 1, none⟩) hld).trans hS.2.2.1, (hb5.cell (p := ⟨g, p * 5 + 2, none⟩) hld).trans hS.2.2.2.1, (hb5.cell (p := ⟨g, p * 5 + 3, none⟩) hld).trans hS.2.2.2.2.1, (hb5.cell (p := ⟨g, p * 5 + 4, none⟩) hld).trans hS.2.2.2.2.2⟩⟩
    replace hw := below_via hw hb5 hw.size
    obtain ⟨cv, hcv⟩ : ∃ c, c = cmpS axn bxn := ⟨_, rfl⟩
    try dsimp only
    rw [← hcv]
    clear hcv
    refine hK.out _ _ (fun _ _ => hS) ?_
    clear hK K
    try simp only [pu]
    refine ppP 10 ?_
    try simp only [pu]
    refine lateP_done (by kernel_rfl) ?_ _
    have hO5 := hO.below RTypeC.fair hw
    have hG5 := grown_via hG (grown_below hw (some g)) (.inl rfl)
    clear hO hG hw hlr hb5 hS hld HQs HOs HOt Hra Hrb HnT HqA HqB
    by_cases hc : cv < 0
    ·have ec : decide (cv < 0) = true := by simpa using hc
     clear hc
     rw [ec]
     clear ec
     go_wp2_with fail
     go_roundw
     case rel => exact ⟨q + 1, j, zs, by simp, rfl, by go_light; omega, by go_light; omega, hjb, hzl, HQz.out, hO5, hG5⟩
     case measure => go_light; simp [intOf]; omega
    ·have ec : decide (cv < 0) = false := by simpa using hc
     clear hc
     rw [ec]
     clear ec
     go_wp2_with fail
     go_roundw
     case rel => exact ⟨i, q, zs, rfl, rfl, hmi, by go_light; omega, by go_light; omega, hzl, HQz.out, hO5, hG5⟩
     case measure => go_light; simp [intOf]; omega
   ·have HQz := Lib.hid hQ
    have hib : i ≤ b := by omega
    have ed : IntKind.i64.wrap ((i : Int) - 1) = (i : Int) - 1 := IntWalk.i64_in _ (by omega)
    clear hQ
    go_wp2_with fail
    obtain ⟨zs0, hzs0⟩ : ∃ z, z = zs := ⟨_, rfl⟩
    rw [← hzs0] at hzl HQz hO
    go_loopw [13] (fun c13 wr => ∃ (k : Nat) (zs : List TypeC), c13 = .int .i64 k ∧ a ≤ k ∧ zs.length = n ∧ (zs.Perm L) ∧ Own base 40 5 RTypeC T wr (Value.slice (some ⟨g, 0, none⟩) n cap) zs ∧ w.grownBy wr (some g)) (fun c13 _ => i - (intOf c13).toNat)
    case atStart => exact ⟨a, zs0, rfl, Nat.le_refl _, hzl, HQz.out, hO, hG⟩
    case round =>
     clear hO hG hzl HQz hzs0 zs0 zs
     obtain ⟨k, zs, rfl, hak, hzl, hQ, hO, hG⟩ := hrel
     by_cases hlt2 : (k : Int) < (i : Int) - 1
     ·obtain ⟨q, hqe⟩ : ∃ q, q = k := ⟨_, rfl⟩
      obtain ⟨p, hpe⟩ : ∃ p, p = k + 1 := ⟨_, rfl⟩
      have hz1 : q < zs.length := by omega
      have hz0 : p < zs.length := by omega
      obtain ⟨ra, la⟩ := elemRow hO hz1
      obtain ⟨rb, lb⟩ := elemRow hO hz0
      have hc : (fun W' => (World.cell? W' ⟨g, q * 5, none⟩ = some (.string zs[q].name) ∧ World.cell? W' ⟨g, q * 5 + 1, none⟩ = some (.bool zs[q].enum) ∧ World.cell? W' ⟨g, q * 5 + 2, none⟩ = some (.slice zs[q].F zs[q].f zs[q].p) ∧ World.cell? W' ⟨g, q * 5 + 3, none⟩ = some (.slice zs[q].G zs[q].g zs[q].q) ∧ World.cell? W' ⟨g, q * 5 + 4, none⟩ = some (.slice zs[q].I zs[q].i zs[q].r)) ∧ (World.cell? W' ⟨g, p * 5, none⟩ = some (.string zs[p].name) ∧ World.cell? W' ⟨g, p * 5 + 1, none⟩ = some (.bool zs[p].enum) ∧ World.cell? W' ⟨g, p * 5 + 2, none⟩ = some (.slice zs[p].F zs[p].f zs[p].p) ∧ World.cell? W' ⟨g, p * 5 + 3, none⟩ = some (.slice zs[p].G zs[p].g zs[p].q) ∧ World.cell? W' ⟨g, p * 5 + 4, none⟩ = some (.slice zs[p].I zs[p].i zs[p].r))) wr := ⟨⟨(by have := la.at_ 0 rfl; simpa using this), la.at_ 1 rfl, la.at_ 2 rfl, la.at_ 3 rfl, la.at_ 4 rfl⟩, ⟨(by have := lb.at_ 0 rfl; simpa using this), lb.at_ 1 rfl, lb.at_ 2 rfl, lb.at_ 3 rfl, lb.at_ 4 rfl⟩⟩
      have qA : QRow zs[q] := trivial
      have qB : QRow zs[p] := trivial
      have HQs := Lib.hid (swap_perm hz1 hz0 hQ)
      have HQz := Lib.hid hQ
      have hOs := fun (W' : World) (hO' : Own base 40 5 RTypeC T W' (Value.slice (some ⟨g, 0, none⟩) zs.length cap) zs) (hr : RTypeC T W' [.string zs[p].name, .bool zs[p].enum, .slice zs[p].F zs[p].f zs[p].p, .slice zs[p].G zs[p].g zs[p].q, .slice zs[p].I zs[p].i zs[p].r] zs[p]) => hO'.store RTypeC.fair hz1 (cs := [.string zs[p].name, .bool zs[p].enum, .slice zs[p].F zs[p].f zs[p].p, .slice zs[p].G zs[p].g zs[p].q, .slice zs[p].I zs[p].i zs[p].r]) (x := zs[p]) rfl hr
      have hOt := fun (W' : World) (hO' : Own base 40 5 RTypeC T W' (Value.slice (some ⟨g, 0, none⟩) (zs.set q zs[p]).length cap) (zs.set q zs[p])) (hr : RTypeC T W' [.string zs[q].name, .bool zs[q].enum, .slice zs[q].F zs[q].f zs[q].p, .slice zs[q].G zs[q].g zs[q].q, .slice zs[q].I zs[q].i zs[q].r] zs[q]) => hO'.store RTypeC.fair (i := p) (by rw [List.length_set]; exact hz0) (cs := [.string zs[q].name, .bool zs[q].enum, .slice zs[q].F zs[q].f zs[q].p, .slice zs[q].G zs[q].g zs[q].q, .slice zs[q].I zs[q].i zs[q].r]) (x := zs[q]) rfl hr
      have hnT : ¬ T g := own_not hO
      have hlr := own_lt hO
      clear la lb
      obtain ⟨A, hA⟩ : ∃ A, A = zs[q] := ⟨_, rfl⟩
      obtain ⟨B, hB⟩ : ∃ B, B = zs[p] := ⟨_, rfl⟩
      rw [← hA] at hc ra qA HQs hOt
      rw [← hB] at hc rb qB HQs hOs hOt
      obtain ⟨axn, axe, axF, axf, axp, axG, axg, axq, axI, axi, axr⟩ := A
      obtain ⟨bxn, bxe, bxF, bxf, bxp, bxG, bxg, bxq, bxI, bxi, bxr⟩ := B
      dsimp only at hc ra rb hOs hOt
      have Hra := Lib.hid ra
      have Hrb := Lib.hid rb
      have HOs := Lib.hid hOs
      have HOt := Lib.hid hOt
      have HnT := Lib.hid hnT
      have HqA := Lib.hid qA
      have HqB := Lib.hid qB
      clear hQ qA qB hA hB hOs hOt ra rb hnT
      have e7 : IntKind.i64.wrap ((k : Int) + 1) = (p : Int) := by rw [show (k : Int) + 1 = (p : Int) by omega]; exact IntWalk.i64_in _ (by omega)
      have hq1n : (q : Int) < n := by omega
      have hq0n : (p : Int) < n := by omega
      have Hpk := Lib.hid hpe
      subst hqe
      clear hpe
      go_upto_region 11 with fail
      obtain ⟨w5, hw5⟩ : ∃ W, W = wr := ⟨_, rfl⟩
      subst hw5
      have hS : (fun W' => (World.cell? W' ⟨g, q * 5, none⟩ = some (.string axn) ∧ World.cell? W' ⟨g, q * 5 + 1, none⟩ = some (.bool axe) ∧ World.cell? W' ⟨g, q * 5 + 2, none⟩ = some (.slice axF axf axp) ∧ World.cell? W' ⟨g, q * 5 + 3, none⟩ = some (.slice axG axg axq) ∧ World.cell? W' ⟨g, q * 5 + 4, none⟩ = some (.slice axI axi axr)) ∧ (World.cell? W' ⟨g, p * 5, none⟩ = some (.string bxn) ∧ World.cell? W' ⟨g, p * 5 + 1, none⟩ = some (.bool bxe) ∧ World.cell? W' ⟨g, p * 5 + 2, none⟩ = some (.slice bxF bxf bxp) ∧ World.cell? W' ⟨g, p * 5 + 3, none⟩ = some (.slice bxG bxg bxq) ∧ World.cell? W' ⟨g, p * 5 + 4, none⟩ = some (.slice bxI bxi bxr))) w5 := hc
      have hO5 := hO
      have hG5 := hG
      have hrA5 := Hra.out
      have hrB5 := Hrb.out
      have hld : g < w5.heap.size := hlr
      clear hO hG hc hlr
      have hOd : Own base 40 5 RTypeC T w5.drew (Value.slice (some ⟨g, 0, none⟩) n cap) zs := hO5.below RTypeC.fair (below_drew (Below.refl w5.heap.size w5))
      have hGd := grown_via hG5 (grown_below (below_drew (Below.refl w5.heap.size w5)) (some g)) (.inl rfl)
      have hrAd := RTypeC.fair.below hrA5 (below_drew (Below.refl w5.heap.size w5))
      have hrBd := RTypeC.fair.below hrB5 (below_drew (Below.refl w5.heap.size w5))
      replace hS : (fun W' => (World.cell? W' ⟨g, q * 5, none⟩ = some (.string axn) ∧ World.cell? W' ⟨g, q * 5 + 1, none⟩ = some (.bool axe) ∧ World.cell? W' ⟨g, q * 5 + 2, none⟩ = some (.slice axF axf axp) ∧ World.cell? W' ⟨g, q * 5 + 3, none⟩ = some (.slice axG axg axq) ∧ World.cell? W' ⟨g, q * 5 + 4, none⟩ = some (.slice axI axi axr)) ∧ (World.cell? W' ⟨g, p * 5, none⟩ = some (.string bxn) ∧ World.cell? W' ⟨g, p * 5 + 1, none⟩ = some (.bool bxe) ∧ World.cell? W' ⟨g, p * 5 + 2, none⟩ = some (.slice bxF bxf bxp) ∧ World.cell? W' ⟨g, p * 5 + 3, none⟩ = some (.slice bxG bxg bxq) ∧ World.cell? W' ⟨g, p * 5 + 4, none⟩ = some (.slice bxI bxi bxr))) w5.drew := hS
      replace hld : g < w5.drew.heap.size := hld
      refine lateP_start (fun W' => (World.cell? W' ⟨g, q * 5, none⟩ = some (.string axn) ∧ World.cell? W' ⟨g, q * 5 + 1, none⟩ = some (.bool axe) ∧ World.cell? W' ⟨g, q * 5 + 2, none⟩ = some (.slice axF axf axp) ∧ World.cell? W' ⟨g, q * 5 + 3, none⟩ = some (.slice axG axg axq) ∧ World.cell? W' ⟨g, q * 5 + 4, none⟩ = some (.slice axI axi axr)) ∧ (World.cell? W' ⟨g, p * 5, none⟩ = some (.string bxn) ∧ World.cell? W' ⟨g, p * 5 + 1, none⟩ = some (.bool bxe) ∧ World.cell? W' ⟨g, p * 5 + 2, none⟩ = some (.slice bxF bxf bxp) ∧ World.cell? W' ⟨g, p * 5 + 3, none⟩ = some (.slice bxG bxg bxq) ∧ World.cell? W' ⟨g, p * 5 + 4, none⟩ = some (.slice bxI bxi bxr))) (fun i => i != 15 && i != 17) (by kernel_rfl) ?_
      generalize w5.drew = Wd at hOd hGd hS hld hrAd hrBd ⊢
      clear hO5 hG5 hrA5 hrB5
      refine ppP 0 ?_
      try simp only [pu]
      refine ppP 1 ?_
      try simp only [pu]
      refine ppP 2 ?_
      try simp only [pu]
      refine ppP 3 ?_
      try simp only [pu]
      refine ppP 4 ?_
      try simp only [pu]
      refine ppP 5 ?_
      try simp only [pu]
      refine ppP 6 ?_
      try simp only [pu]
      refine ppP 7 ?_
      try simp only [pu]
      refine ppP 8 ?_
      try simp only [pu]
      refine tkP 9 hS ?_
      try simp only [pu]
      refine ppP 10 ?_
      try simp only [pu]
      refine ppP 11 ?_
      try simp only [pu]
      refine ppP 12 ?_
      try simp only [pu]
      refine tkP 13 hS ?_
      try simp only [pu]
      refine ppP 14 ?_
      try simp only [pu]
      obtain ⟨⟨d0, d1, d2, d3, d4⟩, ⟨c0, c1, c2, c3, c4⟩⟩ := hS
      rw [← hzl] at hOd
      obtain ⟨hOe, hGe⟩ := HOs.out _ hOd hrBd
      have hrAe := RTypeC.fair.keep hrAd (Keep.of_grown hGe (fun k e => by injection e with e; rw [← e]; exact HnT.out))
      obtain ⟨hOf, hGf⟩ := HOt.out _ (by rw [List.length_set]; exact hOe) hrAe
      have hpz : p < (zs.set q ⟨bxn, bxe, bxF, bxf, bxp, bxG, bxg, bxq, bxI, bxi, bxr⟩).length := by rw [List.length_set]; exact hz0
      have f0 := hOd.frozen (q * 5)
      have g0 := hOe.frozen (p * 5)
      have f1 := hOd.frozen (q * 5 + 1)
      have g1 := hOe.frozen (p * 5 + 1)
      have f2 := hOd.frozen (q * 5 + 2)
      have g2 := hOe.frozen (p * 5 + 2)
      have f3 := hOd.frozen (q * 5 + 3)
      have g3 := hOe.frozen (p * 5 + 3)
      have f4 := hOd.frozen (q * 5 + 4)
      have g4 := hOe.frozen (p * 5 + 4)
      obtain ⟨cs5, hl5, -, ly⟩ := hOe.cells hpz
      have hle := own_lt hOe
      have p0 : ∃ u, World.cell? (setCells Wd g (q * 5) [.string bxn, .bool bxe, .slice bxF bxf bxp, .slice bxG bxg bxq, .slice bxI bxi bxr]) ⟨g, p * 5, none⟩ = some u := ⟨_, (by have := ly.at_ 0 (List.getElem?_eq_getElem (by omega)); rwa [Nat.add_zero] at this)⟩
      have p1 : ∃ u, World.cell? (setCells Wd g (q * 5) [.string bxn, .bool bxe, .slice bxF bxf bxp, .slice bxG bxg bxq, .slice bxI bxi bxr]) ⟨g, p * 5 + 1, none⟩ = some u := ⟨_, ly.at_ 1 (List.getElem?_eq_getElem (by omega))⟩
      have p2 : ∃ u, World.cell? (setCells Wd g (q * 5) [.string bxn, .bool bxe, .slice bxF bxf bxp, .slice bxG bxg bxq, .slice bxI bxi bxr]) ⟨g, p * 5 + 2, none⟩ = some u := ⟨_, ly.at_ 2 (List.getElem?_eq_getElem (by omega))⟩
      have p3 : ∃ u, World.cell? (setCells Wd g (q * 5) [.string bxn, .bool bxe, .slice bxF bxf bxp, .slice bxG bxg bxq, .slice bxI bxi bxr]) ⟨g, p * 5 + 3, none⟩ = some u := ⟨_, ly.at_ 3 (List.getElem?_eq_getElem (by omega))⟩
      have p4 : ∃ u, World.cell? (setCells Wd g (q * 5) [.string bxn, .bool bxe, .slice bxF bxf bxp, .slice bxG bxg bxq, .slice bxI bxi bxr]) ⟨g, p * 5 + 4, none⟩ = some u := ⟨_, ly.at_ 4 (List.getElem?_eq_getElem (by omega))⟩
      obtain ⟨u0, p0⟩ := p0
      obtain ⟨u1, p1⟩ := p1
      obtain ⟨u2, p2⟩ := p2
      obtain ⟨u3, p3⟩ := p3
      obtain ⟨u4, p4⟩ := p4
      clear ly
      have k1 : ((World.setCell Wd ⟨g, q * 5, none⟩ (.string bxn))).cell? ⟨g, q * 5 + 1, none⟩ = some (.bool axe) := by rw [cell_beside (by go_light; omega)]; exact d1
      have m1 : ((World.setCell Wd ⟨g, q * 5, none⟩ (.string bxn))).frozen? ⟨g, q * 5 + 1, none⟩ = false := by simp only [World.frozen?_setCell]; exact f1
      have k2 : ((World.setCell (World.setCell Wd ⟨g, q * 5, none⟩ (.string bxn)) ⟨g, q * 5 + 1, none⟩ (.bool bxe))).cell? ⟨g, q * 5 + 2, none⟩ = some (.slice axF axf axp) := by rw [cell_beside (by go_light; omega), cell_beside (by go_light; omega)]; exact d2
      have m2 : ((World.setCell (World.setCell Wd ⟨g, q * 5, none⟩ (.string bxn)) ⟨g, q * 5 + 1, none⟩ (.bool bxe))).frozen? ⟨g, q * 5 + 2, none⟩ = false := by simp only [World.frozen?_setCell]; exact f2
      have k3 : ((World.setCell (World.setCell (World.setCell Wd ⟨g, q * 5, none⟩ (.string bxn)) ⟨g, q * 5 + 1, none⟩ (.bool bxe)) ⟨g, q * 5 + 2, none⟩ (.slice bxF bxf bxp))).cell? ⟨g, q * 5 + 3, none⟩ = some (.slice axG axg axq) := by rw [cell_beside (by go_light; omega), cell_beside (by go_light; omega), cell_beside (by go_light; omega)]; exact d3
      have m3 : ((World.setCell (World.setCell (World.setCell Wd ⟨g, q * 5, none⟩ (.string bxn)) ⟨g, q * 5 + 1, none⟩ (.bool bxe)) ⟨g, q * 5 + 2, none⟩ (.slice bxF bxf bxp))).frozen? ⟨g, q * 5 + 3, none⟩ = false := by simp only [World.frozen?_setCell]; exact f3
      have k4 : ((World.setCell (World.setCell (World.setCell (World.setCell Wd ⟨g, q * 5, none⟩ (.string bxn)) ⟨g, q * 5 + 1, none⟩ (.bool bxe)) ⟨g, q * 5 + 2, none⟩ (.slice bxF bxf bxp)) ⟨g, q * 5 + 3, none⟩ (.slice bxG bxg bxq))).cell? ⟨g, q * 5 + 4, none⟩ = some (.slice axI axi axr) := by rw [cell_beside (by go_light; omega), cell_beside (by go_light; omega), cell_beside (by go_light; omega), cell_beside (by go_light; omega)]; exact d4
      have m4 : ((World.setCell (World.setCell (World.setCell (World.setCell Wd ⟨g, q * 5, none⟩ (.string bxn)) ⟨g, q * 5 + 1, none⟩ (.bool bxe)) ⟨g, q * 5 + 2, none⟩ (.slice bxF bxf bxp)) ⟨g, q * 5 + 3, none⟩ (.slice bxG bxg bxq))).frozen? ⟨g, q * 5 + 4, none⟩ = false := by simp only [World.frozen?_setCell]; exact f4
      refine lateP_one (i := 15) rfl (by kernel_rfl) (fun K hK => ?_)
      go_simp
      refine hK.out _ _ (fun h => absurd h (by decide)) ?_
      clear hK K
      try simp only [pu]
      change anyP _ _ _ _ _ _ _ _ _ (setCells Wd g (q * 5) [.string bxn, .bool bxe, .slice bxF bxf bxp, .slice bxG bxg bxq, .slice bxI bxi bxr])
      refine ppP 16 ?_
      try simp only [pu]
      clear d0 c0 f0 d1 c1 f1 d2 c2 f2 d3 c3 f3 d4 c4 f4 k1 m1 k2 m2 k3 m3 k4 m4 hld
      generalize setCells Wd g (q * 5) [.string bxn, .bool bxe, .slice bxF bxf bxp, .slice bxG bxg bxq, .slice bxI bxi bxr] = We at *
      have k1 : ((World.setCell We ⟨g, p * 5, none⟩ (.string axn))).cell? ⟨g, p * 5 + 1, none⟩ = some u1 := by rw [cell_beside (by go_light; omega)]; exact p1
      have m1 : ((World.setCell We ⟨g, p * 5, none⟩ (.string axn))).frozen? ⟨g, p * 5 + 1, none⟩ = false := by simp only [World.frozen?_setCell]; exact g1
      have k2 : ((World.setCell (World.setCell We ⟨g, p * 5, none⟩ (.string axn)) ⟨g, p * 5 + 1, none⟩ (.bool axe))).cell? ⟨g, p * 5 + 2, none⟩ = some u2 := by rw [cell_beside (by go_light; omega), cell_beside (by go_light; omega)]; exact p2
      have m2 : ((World.setCell (World.setCell We ⟨g, p * 5, none⟩ (.string axn)) ⟨g, p * 5 + 1, none⟩ (.bool axe))).frozen? ⟨g, p * 5 + 2, none⟩ = false := by simp only [World.frozen?_setCell]; exact g2
      have k3 : ((World.setCell (World.setCell (World.setCell We ⟨g, p * 5, none⟩ (.string axn)) ⟨g, p * 5 + 1, none⟩ (.bool axe)) ⟨g, p * 5 + 2, none⟩ (.slice axF axf axp))).cell? ⟨g, p * 5 + 3, none⟩ = some u3 := by rw [cell_beside (by go_light; omega), cell_beside (by go_light; omega), cell_beside (by go_light; omega)]; exact p3
      have m3 : ((World.setCell (World.setCell (World.setCell We ⟨g, p * 5, none⟩ (.string axn)) ⟨g, p * 5 + 1, none⟩ (.bool axe)) ⟨g, p * 5 + 2, none⟩ (.slice axF axf axp))).frozen? ⟨g, p * 5 + 3, none⟩ = false := by simp only [World.frozen?_setCell]; exact g3
      have k4 : ((World.setCell (World.setCell (World.setCell (World.setCell We ⟨g, p * 5, none⟩ (.string axn)) ⟨g, p * 5 + 1, none⟩ (.bool axe)) ⟨g, p * 5 + 2, none⟩ (.slice axF axf axp)) ⟨g, p * 5 + 3, none⟩ (.slice axG axg axq))).cell? ⟨g, p * 5 + 4, none⟩ = some u4 := by rw [cell_beside (by go_light; omega), cell_beside (by go_light; omega), cell_beside (by go_light; omega), cell_beside (by go_light; omega)]; exact p4
      have m4 : ((World.setCell (World.setCell (World.setCell (World.setCell We ⟨g, p * 5, none⟩ (.string axn)) ⟨g, p * 5 + 1, none⟩ (.bool axe)) ⟨g, p * 5 + 2, none⟩ (.slice axF axf axp)) ⟨g, p * 5 + 3, none⟩ (.slice axG axg axq))).frozen? ⟨g, p * 5 + 4, none⟩ = false := by simp only [World.frozen?_setCell]; exact g4
      refine lateP_one (i := 17) rfl (by kernel_rfl) (fun K hK => ?_)
      go_simp
      refine hK.out _ _ (fun h => absurd h (by decide)) ?_
      clear hK K
      try simp only [pu]
      refine lateP_done (by kernel_rfl) ?_ _
      change Exit.inBlock _ _ _ _ (setCells We g (p * 5) [.string axn, .bool axe, .slice axF axf axp, .slice axG axg axq, .slice axI axi axr])
      have hGz := grown_via (grown_via hGd hGe (.inl rfl)) hGf (.inl rfl)
      clear p0 g0 p1 g1 p2 g2 p3 g3 p4 g4 k1 m1 k2 m2 k3 m3 k4 m4 hOd hOe hGd hGe hrAd hrBd hrAe hpz hle hl5
      generalize setCells We g (p * 5) [.string axn, .bool axe, .slice axF axf axp, .slice axG axg axq, .slice axI axi axr] = Wf at *
      simp only [List.length_set] at hOf
      rw [hzl] at hOf
      go_wp2_with fail
      go_roundw
      case rel => exact ⟨p, (zs.set q ⟨bxn, bxe, bxF, bxf, bxp, bxG, bxg, bxq, bxI, bxi, bxr⟩).set p ⟨axn, axe, axF, axf, axp, axG, axg, axq, axI, axi, axr⟩, rfl, by have := Hpk.out; go_light; omega, by simp only [List.length_set]; exact hzl, HQs.out, hOf, hGz⟩
      case measure => go_light; have := Hpk.out; simp [intOf]; omega
     ·have HQz := Lib.hid hQ
      clear hQ
      go_wp2_with fail
      refine bodyPost_ret (results_none rfl _ _ _) rfl ?_
      exact ⟨rfl, zs, hzl.trans Hnn.out, HQz.out, by rw [← Hnn.out]; exact hO, hG⟩
 ·have em : ((m : Int) - a == 1) = false := by simp; omega
  by_cases hbm : b - m = 1
  ·--[M2
   have em2 : ((b : Int) - m == 1) = true := by simp; omega
   go_wp2_with fail
   clear e1 e2 em em2
   go_loopw [14, 15] (fun c10 c11 wr => ∃ (i j : Nat) (zs : List TypeC), c10 = .int .i64 i ∧ c11 = .int .i64 j ∧ a ≤ i ∧ i ≤ j ∧ j ≤ m ∧ zs.length = n ∧ (zs.Perm L) ∧ Own base 40 5 RTypeC T wr (Value.slice (some ⟨g, 0, none⟩) n cap) zs ∧ w.grownBy wr (some g)) (fun c10 c11 _ => (intOf c11).toNat - (intOf c10).toNat)
   case atStart => exact ⟨a, m, xs, rfl, rfl, Nat.le_refl _, by omega, Nat.le_refl _, Hnn.out.symm, HQ.out, HO.out, grown_below (Below.refl _ _) _⟩
   case round =>
    obtain ⟨i, j, zs, rfl, rfl, hmi, hij, hjb, hzl, hQ, hO, hG⟩ := hrel
    by_cases hlt : i < j
    ·obtain ⟨hh, hhe⟩ : ∃ h, h = (i + j) / 2 := ⟨_, rfl⟩
     obtain ⟨q, hqe⟩ : ∃ q, q = m := ⟨_, rfl⟩
     obtain ⟨p, hpe⟩ : ∃ p, p = hh := ⟨_, rfl⟩
     have hz1 : q < zs.length := by omega
     have hz0 : p < zs.length := by omega
     obtain ⟨ra, la⟩ := elemRow hO hz1
     obtain ⟨rb, lb⟩ := elemRow hO hz0
     have hc : (fun W' => (World.cell? W' ⟨g, q * 5, none⟩ = some (.string zs[q].name) ∧ World.cell? W' ⟨g, q * 5 + 1, none⟩ = some (.bool zs[q].enum) ∧ World.cell? W' ⟨g, q * 5 + 2, none⟩ = some (.slice zs[q].F zs[q].f zs[q].p) ∧ World.cell? W' ⟨g, q * 5 + 3, none⟩ = some (.slice zs[q].G zs[q].g zs[q].q) ∧ World.cell? W' ⟨g, q * 5 + 4, none⟩ = some (.slice zs[q].I zs[q].i zs[q].r)) ∧ (World.cell? W' ⟨g, p * 5, none⟩ = some (.string zs[p].name) ∧ World.cell? W' ⟨g, p * 5 + 1, none⟩ = some (.bool zs[p].enum) ∧ World.cell? W' ⟨g, p * 5 + 2, none⟩ = some (.slice zs[p].F zs[p].f zs[p].p) ∧ World.cell? W' ⟨g, p * 5 + 3, none⟩ = some (.slice zs[p].G zs[p].g zs[p].q) ∧ World.cell? W' ⟨g, p * 5 + 4, none⟩ = some (.slice zs[p].I zs[p].i zs[p].r))) wr := ⟨⟨(by have := la.at_ 0 rfl; simpa using this), la.at_ 1 rfl, la.at_ 2 rfl, la.at_ 3 rfl, la.at_ 4 rfl⟩, ⟨(by have := lb.at_ 0 rfl; simpa using this), lb.at_ 1 rfl, lb.at_ 2 rfl, lb.at_ 3 rfl, lb.at_ 4 rfl⟩⟩
     have qA : QRow zs[q] := trivial
     have qB : QRow zs[p] := trivial
     have HQs := Lib.hid (swap_perm hz1 hz0 hQ)
     have HQz := Lib.hid hQ
     have hOs := fun (W' : World) (hO' : Own base 40 5 RTypeC T W' (Value.slice (some ⟨g, 0, none⟩) zs.length cap) zs) (hr : RTypeC T W' [.string zs[p].name, .bool zs[p].enum, .slice zs[p].F zs[p].f zs[p].p, .slice zs[p].G zs[p].g zs[p].q, .slice zs[p].I zs[p].i zs[p].r] zs[p]) => hO'.store RTypeC.fair hz1 (cs := [.string zs[p].name, .bool zs[p].enum, .slice zs[p].F zs[p].f zs[p].p, .slice zs[p].G zs[p].g zs[p].q, .slice zs[p].I zs[p].i zs[p].r]) (x := zs[p]) rfl hr
     have hOt := fun (W' : World) (hO' : Own base 40 5 RTypeC T W' (Value.slice (some ⟨g, 0, none⟩) (zs.set q zs[p]).length cap) (zs.set q zs[p])) (hr : RTypeC T W' [.string zs[q].name, .bool zs[q].enum, .slice zs[q].F zs[q].f zs[q].p, .slice zs[q].G zs[q].g zs[q].q, .slice zs[q].I zs[q].i zs[q].r] zs[q]) => hO'.store RTypeC.fair (i := p) (by rw [List.length_set]; exact hz0) (cs := [.string zs[q].name, .bool zs[q].enum, .slice zs[q].F zs[q].f zs[q].p, .slice zs[q].G zs[q].g zs[q].q, .slice zs[q].I zs[q].i zs[q].r]) (x := zs[q]) rfl hr
     have hnT : ¬ T g := own_not hO
     have hlr := own_lt hO
     clear la lb
     obtain ⟨A, hA⟩ : ∃ A, A = zs[q] := ⟨_, rfl⟩
     obtain ⟨B, hB⟩ : ∃ B, B = zs[p] := ⟨_, rfl⟩
     rw [← hA] at hc ra qA HQs hOt
     rw [← hB] at hc rb qB HQs hOs hOt
     obtain ⟨axn, axe, axF, axf, axp, axG, axg, axq, axI, axi, axr⟩ := A
     obtain ⟨bxn, bxe, bxF, bxf, bxp, bxG, bxg, bxq, bxI, bxi, bxr⟩ := B
     dsimp only at hc ra rb hOs hOt
     have Hra := Lib.hid ra
     have Hrb := Lib.hid rb
     have HOs := Lib.hid hOs
     have HOt := Lib.hid hOt
     have HnT := Lib.hid hnT
     have HqA := Lib.hid qA
     have HqB := Lib.hid qB
     clear hQ qA qB hA hB hOs hOt ra rb hnT
     have es : IntKind.i64.wrap ((i : Int) + j) = (i : Int) + j := IntWalk.i64_in _ (by omega)
     have eu : IntKind.u64.wrap ((i : Int) + j) = (i : Int) + j := wrap_u64 _ (by omega) (by omega)
     have eh : ((i : Int) + j) / 2 = (hh : Int) := by omega
     have ei : IntKind.i64.wrap (hh : Int) = (hh : Int) := IntWalk.i64_in _ (by omega)
     have ev : IntKind.u64.wrap (hh : Int) = (hh : Int) := wrap_u64 _ (by omega) (by omega)
     have e7 : IntKind.i64.wrap ((hh : Int) + 1) = (hh : Int) + 1 := IntWalk.i64_in _ (by omega)
     have hq1n : (q : Int) < n := by omega
     have hq0n : (p : Int) < n := by omega
     have hb2 : i ≤ hh ∧ hh < j := by omega
     subst hqe hpe
     clear hhe
     go_upto_region 17 with fail
     clear es eu eh
     have hw := below_drew (Below.refl wr.heap.size wr)
     have hS : (fun W' => (World.cell? W' ⟨g, q * 5, none⟩ = some (.string axn) ∧ World.cell? W' ⟨g, q * 5 + 1, none⟩ = some (.bool axe) ∧ World.cell? W' ⟨g, q * 5 + 2, none⟩ = some (.slice axF axf axp) ∧ World.cell? W' ⟨g, q * 5 + 3, none⟩ = some (.slice axG axg axq) ∧ World.cell? W' ⟨g, q * 5 + 4, none⟩ = some (.slice axI axi axr)) ∧ (World.cell? W' ⟨g, p * 5, none⟩ = some (.string bxn) ∧ World.cell? W' ⟨g, p * 5 + 1, none⟩ = some (.bool bxe) ∧ World.cell? W' ⟨g, p * 5 + 2, none⟩ = some (.slice bxF bxf bxp) ∧ World.cell? W' ⟨g, p * 5 + 3, none⟩ = some (.slice bxG bxg bxq) ∧ World.cell? W' ⟨g, p * 5 + 4, none⟩ = some (.slice bxI bxi bxr))) wr.drew := hc
     have hld : g < wr.drew.heap.size := hlr
     refine lateP_start (fun W' => (World.cell? W' ⟨g, q * 5, none⟩ = some (.string axn) ∧ World.cell? W' ⟨g, q * 5 + 1, none⟩ = some (.bool axe) ∧ World.cell? W' ⟨g, q * 5 + 2, none⟩ = some (.slice axF axf axp) ∧ World.cell? W' ⟨g, q * 5 + 3, none⟩ = some (.slice axG axg axq) ∧ World.cell? W' ⟨g, q * 5 + 4, none⟩ = some (.slice axI axi axr)) ∧ (World.cell? W' ⟨g, p * 5, none⟩ = some (.string bxn) ∧ World.cell? W' ⟨g, p * 5 + 1, none⟩ = some (.bool bxe) ∧ World.cell? W' ⟨g, p * 5 + 2, none⟩ = some (.slice bxF bxf bxp) ∧ World.cell? W' ⟨g, p * 5 + 3, none⟩ = some (.slice bxG bxg bxq) ∧ World.cell? W' ⟨g, p * 5 + 4, none⟩ = some (.slice bxI bxi bxr))) (fun _ => true) (by kernel_rfl) ?_
     generalize wr.drew = Wd at hw hS hld ⊢
     clear hc
     refine ppP 0 ?_
     try simp only [pu]
     refine ppP 1 ?_
     try simp only [pu]
     refine ppP 2 ?_
     try simp only [pu]
     refine ppP 3 ?_
     try simp only [pu]
     refine tkP 4 hS ?_
     try simp only [pu]
     refine ppP 5 ?_
     try simp only [pu]
     refine ppP 6 ?_
     try simp only [pu]
     refine ppP 7 ?_
     try simp only [pu]
     refine tkP 8 hS ?_
     try simp only [pu]
     refine lateP_one (i := 9) rfl (by kernel_rfl) (fun K hK => ?_)
     go_simp
     refine (cmpRow_any T T ⟨axn, axe, axF, axf, axp, axG, axg, axq, axI, axi, axr⟩ ⟨bxn, bxe, bxF, bxf, bxp, bxG, bxg, bxq, bxI, bxi, bxr⟩ _ _ _ (RTypeC.fair.below Hra.out hw) (RTypeC.fair.below Hrb.out hw) HqA.out HqB.out).mono ?_
     rintro e w5 ⟨rfl, hb5⟩
     replace hS : (fun W' => (World.cell? W' ⟨g, q * 5, none⟩ = some (.string axn) ∧ World.cell? W' ⟨g, q * 5 + 1, none⟩ = some (.bool axe) ∧ World.cell? W' ⟨g, q * 5 + 2, none⟩ = some (.slice axF axf axp) ∧ World.cell? W' ⟨g, q * 5 + 3, none⟩ = some (.slice axG axg axq) ∧ World.cell? W' ⟨g, q * 5 + 4, none⟩ = some (.slice axI axi axr)) ∧ (World.cell? W' ⟨g, p * 5, none⟩ = some (.string bxn) ∧ World.cell? W' ⟨g, p * 5 + 1, none⟩ = some (.bool bxe) ∧ World.cell? W' ⟨g, p * 5 + 2, none⟩ = some (.slice bxF bxf bxp) ∧ World.cell? W' ⟨g, p * 5 + 3, none⟩ = some (.slice bxG bxg bxq) ∧ World.cell? W' ⟨g, p * 5 + 4, none⟩ = some (.slice bxI bxi bxr))) w5 := ⟨⟨(hb5.cell (p := ⟨g, q * 5, none⟩) hld).trans hS.1.1, (hb5.cell (p := ⟨g, q * 5 + 1, none⟩) hld).trans hS.1.2.1, (hb5.cell (p := ⟨g, q * 5 + 2, none⟩) hld).trans hS.1.2.2.1, (hb5.cell (p := ⟨g, q * 5 + 3, none⟩) hld).trans hS.1.2.2.2.1, (hb5.cell (p := ⟨g, q * 5 + 4, none⟩) hld).trans hS.1.2.2.2.2⟩, ⟨(hb5.cell (p := ⟨g, p * 5, none⟩) hld).trans hS.2.1, (hb5.cell (p := ⟨g, p * 5 + 1, none⟩) hld).trans hS.2.2.1, (hb5.cell (p := ⟨g, p * 5 + 2, none⟩) hld).trans hS.2.2.2.1, (hb5.cell (p := ⟨g, p * 5 + 3, none⟩) hld).trans hS.2.2.2.2.1, (hb5.cell (p := ⟨g, p * 5 + 4, none⟩) hld).trans hS.2.2.2.2.2⟩⟩
     replace hw := below_via hw hb5 hw.size
     obtain ⟨cv, hcv⟩ : ∃ c, c = cmpS axn bxn := ⟨_, rfl⟩
     try dsimp only
     rw [← hcv]
     clear hcv
     refine hK.out _ _ (fun _ _ => hS) ?_
     clear hK K
     try simp only [pu]
     refine ppP 10 ?_
     try simp only [pu]
     refine ppP 11 ?_
     try simp only [pu]
     refine lateP_done (by kernel_rfl) ?_ _
     have hO5 := hO.below RTypeC.fair hw
     have hG5 := grown_via hG (grown_below hw (some g)) (.inl rfl)
     clear hO hG hw hlr hb5 hS hld HQs HOs HOt Hra Hrb HnT HqA HqB
     by_cases hc : cv < 0
     ·have ec : decide (cv < 0) = true := by simpa using hc
      clear hc
      rw [ec]
      clear ec
      go_wp2_with fail
      go_roundw
      case rel => exact ⟨i, p, zs, rfl, rfl, hmi, by go_light; omega, by go_light; omega, hzl, HQz.out, hO5, hG5⟩
      case measure => go_light; simp [intOf]; omega
     ·have ec : decide (cv < 0) = false := by simpa using hc
      clear hc
      rw [ec]
      clear ec
      go_wp2_with fail
      go_roundw
      case rel => exact ⟨p + 1, j, zs, by simp, rfl, by go_light; omega, by go_light; omega, hjb, hzl, HQz.out, hO5, hG5⟩
      case measure => go_light; simp [intOf]; omega
    ·have HQz := Lib.hid hQ
     clear hQ
     go_wp2_with fail
     obtain ⟨zs0, hzs0⟩ : ∃ z, z = zs := ⟨_, rfl⟩
     rw [← hzs0] at hzl HQz hO
     go_loopw [17] (fun c13 wr => ∃ (k : Nat) (zs : List TypeC), c13 = .int .i64 k ∧ k ≤ m ∧ zs.length = n ∧ (zs.Perm L) ∧ Own base 40 5 RTypeC T wr (Value.slice (some ⟨g, 0, none⟩) n cap) zs ∧ w.grownBy wr (some g)) (fun c13 _ => (intOf c13).toNat)
     case atStart => exact ⟨m, zs0, rfl, Nat.le_refl _, hzl, HQz.out, hO, hG⟩
     case round =>
      clear hO hG hzl HQz hzs0 zs0 zs
      obtain ⟨k, zs, rfl, hak, hzl, hQ, hO, hG⟩ := hrel
      by_cases hlt2 : i < k
      ·obtain ⟨q, hqe⟩ : ∃ q, q = k := ⟨_, rfl⟩
       obtain ⟨p, hpe⟩ : ∃ p, p = k - 1 := ⟨_, rfl⟩
       have hz1 : q < zs.length := by omega
       have hz0 : p < zs.length := by omega
       obtain ⟨ra, la⟩ := elemRow hO hz1
       obtain ⟨rb, lb⟩ := elemRow hO hz0
       have hc : (fun W' => (World.cell? W' ⟨g, q * 5, none⟩ = some (.string zs[q].name) ∧ World.cell? W' ⟨g, q * 5 + 1, none⟩ = some (.bool zs[q].enum) ∧ World.cell? W' ⟨g, q * 5 + 2, none⟩ = some (.slice zs[q].F zs[q].f zs[q].p) ∧ World.cell? W' ⟨g, q * 5 + 3, none⟩ = some (.slice zs[q].G zs[q].g zs[q].q) ∧ World.cell? W' ⟨g, q * 5 + 4, none⟩ = some (.slice zs[q].I zs[q].i zs[q].r)) ∧ (World.cell? W' ⟨g, p * 5, none⟩ = some (.string zs[p].name) ∧ World.cell? W' ⟨g, p * 5 + 1, none⟩ = some (.bool zs[p].enum) ∧ World.cell? W' ⟨g, p * 5 + 2, none⟩ = some (.slice zs[p].F zs[p].f zs[p].p) ∧ World.cell? W' ⟨g, p * 5 + 3, none⟩ = some (.slice zs[p].G zs[p].g zs[p].q) ∧ World.cell? W' ⟨g, p * 5 + 4, none⟩ = some (.slice zs[p].I zs[p].i zs[p].r))) wr := ⟨⟨(by have := la.at_ 0 rfl; simpa using this), la.at_ 1 rfl, la.at_ 2 rfl, la.at_ 3 rfl, la.at_ 4 rfl⟩, ⟨(by have := lb.at_ 0 rfl; simpa using this), lb.at_ 1 rfl, lb.at_ 2 rfl, lb.at_ 3 rfl, lb.at_ 4 rfl⟩⟩
       have qA : QRow zs[q] := trivial
       have qB : QRow zs[p] := trivial
       have HQs := Lib.hid (swap_perm hz1 hz0 hQ)
       have HQz := Lib.hid hQ
       have hOs := fun (W' : World) (hO' : Own base 40 5 RTypeC T W' (Value.slice (some ⟨g, 0, none⟩) zs.length cap) zs) (hr : RTypeC T W' [.string zs[p].name, .bool zs[p].enum, .slice zs[p].F zs[p].f zs[p].p, .slice zs[p].G zs[p].g zs[p].q, .slice zs[p].I zs[p].i zs[p].r] zs[p]) => hO'.store RTypeC.fair hz1 (cs := [.string zs[p].name, .bool zs[p].enum, .slice zs[p].F zs[p].f zs[p].p, .slice zs[p].G zs[p].g zs[p].q, .slice zs[p].I zs[p].i zs[p].r]) (x := zs[p]) rfl hr
       have hOt := fun (W' : World) (hO' : Own base 40 5 RTypeC T W' (Value.slice (some ⟨g, 0, none⟩) (zs.set q zs[p]).length cap) (zs.set q zs[p])) (hr : RTypeC T W' [.string zs[q].name, .bool zs[q].enum, .slice zs[q].F zs[q].f zs[q].p, .slice zs[q].G zs[q].g zs[q].q, .slice zs[q].I zs[q].i zs[q].r] zs[q]) => hO'.store RTypeC.fair (i := p) (by rw [List.length_set]; exact hz0) (cs := [.string zs[q].name, .bool zs[q].enum, .slice zs[q].F zs[q].f zs[q].p, .slice zs[q].G zs[q].g zs[q].q, .slice zs[q].I zs[q].i zs[q].r]) (x := zs[q]) rfl hr
       have hnT : ¬ T g := own_not hO
       have hlr := own_lt hO
       clear la lb
       obtain ⟨A, hA⟩ : ∃ A, A = zs[q] := ⟨_, rfl⟩
       obtain ⟨B, hB⟩ : ∃ B, B = zs[p] := ⟨_, rfl⟩
       rw [← hA] at hc ra qA HQs hOt
       rw [← hB] at hc rb qB HQs hOs hOt
       obtain ⟨axn, axe, axF, axf, axp, axG, axg, axq, axI, axi, axr⟩ := A
       obtain ⟨bxn, bxe, bxF, bxf, bxp, bxG, bxg, bxq, bxI, bxi, bxr⟩ := B
       dsimp only at hc ra rb hOs hOt
       have Hra := Lib.hid ra
       have Hrb := Lib.hid rb
       have HOs := Lib.hid hOs
       have HOt := Lib.hid hOt
       have HnT := Lib.hid hnT
       have HqA := Lib.hid qA
       have HqB := Lib.hid qB
       clear hQ qA qB hA hB hOs hOt ra rb hnT
       have e7 : IntKind.i64.wrap ((k : Int) - 1) = (p : Int) := by rw [show (k : Int) - 1 = (p : Int) by omega]; exact IntWalk.i64_in _ (by omega)
       have hq1n : (q : Int) < n := by omega
       have hq0n : (p : Int) < n := by omega
       have Hpk := Lib.hid (show p < q ∧ p ≤ m by omega)
       have hki : (i : Int) < k := by omega
       subst hqe
       clear hpe
       go_upto_region 23 with fail
       obtain ⟨w5, hw5⟩ : ∃ W, W = wr := ⟨_, rfl⟩
       subst hw5
       have hS : (fun W' => (World.cell? W' ⟨g, q * 5, none⟩ = some (.string axn) ∧ World.cell? W' ⟨g, q * 5 + 1, none⟩ = some (.bool axe) ∧ World.cell? W' ⟨g, q * 5 + 2, none⟩ = some (.slice axF axf axp) ∧ World.cell? W' ⟨g, q * 5 + 3, none⟩ = some (.slice axG axg axq) ∧ World.cell? W' ⟨g, q * 5 + 4, none⟩ = some (.slice axI axi axr)) ∧ (World.cell? W' ⟨g, p * 5, none⟩ = some (.string bxn) ∧ World.cell? W' ⟨g, p * 5 + 1, none⟩ = some (.bool bxe) ∧ World.cell? W' ⟨g, p * 5 + 2, none⟩ = some (.slice bxF bxf bxp) ∧ World.cell? W' ⟨g, p * 5 + 3, none⟩ = some (.slice bxG bxg bxq) ∧ World.cell? W' ⟨g, p * 5 + 4, none⟩ = some (.slice bxI bxi bxr))) w5 := hc
       have hO5 := hO
       have hG5 := hG
       have hrA5 := Hra.out
       have hrB5 := Hrb.out
       have hld : g < w5.heap.size := hlr
       clear hO hG hc hlr
       have hOd : Own base 40 5 RTypeC T w5.drew (Value.slice (some ⟨g, 0, none⟩) n cap) zs := hO5.below RTypeC.fair (below_drew (Below.refl w5.heap.size w5))
       have hGd := grown_via hG5 (grown_below (below_drew (Below.refl w5.heap.size w5)) (some g)) (.inl rfl)
       have hrAd := RTypeC.fair.below hrA5 (below_drew (Below.refl w5.heap.size w5))
       have hrBd := RTypeC.fair.below hrB5 (below_drew (Below.refl w5.heap.size w5))
       replace hS : (fun W' => (World.cell? W' ⟨g, q * 5, none⟩ = some (.string axn) ∧ World.cell? W' ⟨g, q * 5 + 1, none⟩ = some (.bool axe) ∧ World.cell? W' ⟨g, q * 5 + 2, none⟩ = some (.slice axF axf axp) ∧ World.cell? W' ⟨g, q * 5 + 3, none⟩ = some (.slice axG axg axq) ∧ World.cell? W' ⟨g, q * 5 + 4, none⟩ = some (.slice axI axi axr)) ∧ (World.cell? W' ⟨g, p * 5, none⟩ = some (.string bxn) ∧ World.cell? W' ⟨g, p * 5 + 1, none⟩ = some (.bool bxe) ∧ World.cell? W' ⟨g, p * 5 + 2, none⟩ = some (.slice bxF bxf bxp) ∧ World.cell? W' ⟨g, p * 5 + 3, none⟩ = some (.slice bxG bxg bxq) ∧ World.cell? W' ⟨g, p * 5 + 4, none⟩ = some (.slice bxI bxi bxr))) w5.drew := hS
       replace hld : g < w5.drew.heap.size := hld
       refine lateP_start (fun W' => (World.cell? W' ⟨g, q * 5, none⟩ = some (.string axn) ∧ World.cell? W' ⟨g, q * 5 + 1, none⟩ = some (.bool axe) ∧ World.cell? W' ⟨g, q * 5 + 2, none⟩ = some (.slice axF axf axp) ∧ World.cell? W' ⟨g, q * 5 + 3, none⟩ = some (.slice axG axg axq) ∧ World.cell? W' ⟨g, q * 5 + 4, none⟩ = some (.slice axI axi axr)) ∧ (World.cell? W' ⟨g, p * 5, none⟩ = some (.string bxn) ∧ World.cell? W' ⟨g, p * 5 + 1, none⟩ = some (.bool bxe) ∧ World.cell? W' ⟨g, p * 5 + 2, none⟩ = some (.slice bxF bxf bxp) ∧ World.cell? W' ⟨g, p * 5 + 3, none⟩ = some (.slice bxG bxg bxq) ∧ World.cell? W' ⟨g, p * 5 + 4, none⟩ = some (.slice bxI bxi bxr))) (fun i => i != 15 && i != 17) (by kernel_rfl) ?_
       generalize w5.drew = Wd at hOd hGd hS hld hrAd hrBd ⊢
       clear hO5 hG5 hrA5 hrB5
       refine ppP 0 ?_
       try simp only [pu]
       refine ppP 1 ?_
       try simp only [pu]
       refine ppP 2 ?_
       try simp only [pu]
       refine ppP 3 ?_
       try simp only [pu]
       refine ppP 4 ?_
       try simp only [pu]
       refine ppP 5 ?_
       try simp only [pu]
       refine ppP 6 ?_
       try simp only [pu]
       refine ppP 7 ?_
       try simp only [pu]
       refine ppP 8 ?_
       try simp only [pu]
       refine tkP 9 hS ?_
       try simp only [pu]
       refine ppP 10 ?_
       try simp only [pu]
       refine ppP 11 ?_
       try simp only [pu]
       refine ppP 12 ?_
       try simp only [pu]
       refine tkP 13 hS ?_
       try simp only [pu]
       refine ppP 14 ?_
       try simp only [pu]
       obtain ⟨⟨d0, d1, d2, d3, d4⟩, ⟨c0, c1, c2, c3, c4⟩⟩ := hS
       rw [← hzl] at hOd
       obtain ⟨hOe, hGe⟩ := HOs.out _ hOd hrBd
       have hrAe := RTypeC.fair.keep hrAd (Keep.of_grown hGe (fun k e => by injection e with e; rw [← e]; exact HnT.out))
       obtain ⟨hOf, hGf⟩ := HOt.out _ (by rw [List.length_set]; exact hOe) hrAe
       have hpz : p < (zs.set q ⟨bxn, bxe, bxF, bxf, bxp, bxG, bxg, bxq, bxI, bxi, bxr⟩).length := by rw [List.length_set]; exact hz0
       have f0 := hOd.frozen (q * 5)
       have g0 := hOe.frozen (p * 5)
       have f1 := hOd.frozen (q * 5 + 1)
       have g1 := hOe.frozen (p * 5 + 1)
       have f2 := hOd.frozen (q * 5 + 2)
       have g2 := hOe.frozen (p * 5 + 2)
       have f3 := hOd.frozen (q * 5 + 3)
       have g3 := hOe.frozen (p * 5 + 3)
       have f4 := hOd.frozen (q * 5 + 4)
       have g4 := hOe.frozen (p * 5 + 4)
       obtain ⟨cs5, hl5, -, ly⟩ := hOe.cells hpz
       have hle := own_lt hOe
       have p0 : ∃ u, World.cell? (setCells Wd g (q * 5) [.string bxn, .bool bxe, .slice bxF bxf bxp, .slice bxG bxg bxq, .slice bxI bxi bxr]) ⟨g, p * 5, none⟩ = some u := ⟨_, (by have := ly.at_ 0 (List.getElem?_eq_getElem (by omega)); rwa [Nat.add_zero] at this)⟩
       have p1 : ∃ u, World.cell? (setCells Wd g (q * 5) [.string bxn, .bool bxe, .slice bxF bxf bxp, .slice bxG bxg bxq, .slice bxI bxi bxr]) ⟨g, p * 5 + 1, none⟩ = some u := ⟨_, ly.at_ 1 (List.getElem?_eq_getElem (by omega))⟩
       have p2 : ∃ u, World.cell? (setCells Wd g (q * 5) [.string bxn, .bool bxe, .slice bxF bxf bxp, .slice bxG bxg bxq, .slice bxI bxi bxr]) ⟨g, p * 5 + 2, none⟩ = some u := ⟨_, ly.at_ 2 (List.getElem?_eq_getElem (by omega))⟩
       have p3 : ∃ u, World.cell? (setCells Wd g (q * 5) [.string bxn, .bool bxe, .slice bxF bxf bxp, .slice bxG bxg bxq, .slice bxI bxi bxr]) ⟨g, p * 5 + 3, none⟩ = some u := ⟨_, ly.at_ 3 (List.getElem?_eq_getElem (by omega))⟩
       have p4 : ∃ u, World.cell? (setCells Wd g (q * 5) [.string bxn, .bool bxe, .slice bxF bxf bxp, .slice bxG bxg bxq, .slice bxI bxi bxr]) ⟨g, p * 5 + 4, none⟩ = some u := ⟨_, ly.at_ 4 (List.getElem?_eq_getElem (by omega))⟩
       obtain ⟨u0, p0⟩ := p0
       obtain ⟨u1, p1⟩ := p1
       obtain ⟨u2, p2⟩ := p2
       obtain ⟨u3, p3⟩ := p3
       obtain ⟨u4, p4⟩ := p4
       clear ly
       have k1 : ((World.setCell Wd ⟨g, q * 5, none⟩ (.string bxn))).cell? ⟨g, q * 5 + 1, none⟩ = some (.bool axe) := by rw [cell_beside (by go_light; omega)]; exact d1
       have m1 : ((World.setCell Wd ⟨g, q * 5, none⟩ (.string bxn))).frozen? ⟨g, q * 5 + 1, none⟩ = false := by simp only [World.frozen?_setCell]; exact f1
       have k2 : ((World.setCell (World.setCell Wd ⟨g, q * 5, none⟩ (.string bxn)) ⟨g, q * 5 + 1, none⟩ (.bool bxe))).cell? ⟨g, q * 5 + 2, none⟩ = some (.slice axF axf axp) := by rw [cell_beside (by go_light; omega), cell_beside (by go_light; omega)]; exact d2
       have m2 : ((World.setCell (World.setCell Wd ⟨g, q * 5, none⟩ (.string bxn)) ⟨g, q * 5 + 1, none⟩ (.bool bxe))).frozen? ⟨g, q * 5 + 2, none⟩ = false := by simp only [World.frozen?_setCell]; exact f2
       have k3 : ((World.setCell (World.setCell (World.setCell Wd ⟨g, q * 5, none⟩ (.string bxn)) ⟨g, q * 5 + 1, none⟩ (.bool bxe)) ⟨g, q * 5 + 2, none⟩ (.slice bxF bxf bxp))).cell? ⟨g, q * 5 + 3, none⟩ = some (.slice axG axg axq) := by rw [cell_beside (by go_light; omega), cell_beside (by go_light; omega), cell_beside (by go_light; omega)]; exact d3
       have m3 : ((World.setCell (World.setCell (World.setCell Wd ⟨g, q * 5, none⟩ (.string bxn)) ⟨g, q * 5 + 1, none⟩ (.bool bxe)) ⟨g, q * 5 + 2, none⟩ (.slice bxF bxf bxp))).frozen? ⟨g, q * 5 + 3, none⟩ = false := by simp only [World.frozen?_setCell]; exact f3
       have k4 : ((World.setCell (World.setCell (World.setCell (World.setCell Wd ⟨g, q * 5, none⟩ (.string bxn)) ⟨g, q * 5 + 1, none⟩ (.bool bxe)) ⟨g, q * 5 + 2, none⟩ (.slice bxF bxf bxp)) ⟨g, q * 5 + 3, none⟩ (.slice bxG bxg bxq))).cell? ⟨g, q * 5 + 4, none⟩ = some (.slice axI axi axr) := by rw [cell_beside (by go_light; omega), cell_beside (by go_light; omega), cell_beside (by go_light; omega), cell_beside (by go_light; omega)]; exact d4
       have m4 : ((World.setCell (World.setCell (World.setCell (World.setCell Wd ⟨g, q * 5, none⟩ (.string bxn)) ⟨g, q * 5 + 1, none⟩ (.bool bxe)) ⟨g, q * 5 + 2, none⟩ (.slice bxF bxf bxp)) ⟨g, q * 5 + 3, none⟩ (.slice bxG bxg bxq))).frozen? ⟨g, q * 5 + 4, none⟩ = false := by simp only [World.frozen?_setCell]; exact f4
       refine lateP_one (i := 15) rfl (by kernel_rfl) (fun K hK => ?_)
       go_simp
       refine hK.out _ _ (fun h => absurd h (by decide)) ?_
       clear hK K
       try simp only [pu]
       change anyP _ _ _ _ _ _ _ _ _ (setCells Wd g (q * 5) [.string bxn, .bool bxe, .slice bxF bxf bxp, .slice bxG bxg bxq, .slice bxI bxi bxr])
       refine ppP 16 ?_
       try simp only [pu]
       clear d0 c0 f0 d1 c1 f1 d2 c2 f2 d3 c3 f3 d4 c4 f4 k1 m1 k2 m2 k3 m3 k4 m4 hld
       generalize setCells Wd g (q * 5) [.string bxn, .bool bxe, .slice bxF bxf bxp, .slice bxG bxg bxq, .slice bxI bxi bxr] = We at *
       have k1 : ((World.setCell We ⟨g, p * 5, none⟩ (.string axn))).cell? ⟨g, p * 5 + 1, none⟩ = some u1 := by rw [cell_beside (by go_light; omega)]; exact p1
       have m1 : ((World.setCell We ⟨g, p * 5, none⟩ (.string axn))).frozen? ⟨g, p * 5 + 1, none⟩ = false := by simp only [World.frozen?_setCell]; exact g1
       have k2 : ((World.setCell (World.setCell We ⟨g, p * 5, none⟩ (.string axn)) ⟨g, p * 5 + 1, none⟩ (.bool axe))).cell? ⟨g, p * 5 + 2, none⟩ = some u2 := by rw [cell_beside (by go_light; omega), cell_beside (by go_light; omega)]; exact p2
       have m2 : ((World.setCell (World.setCell We ⟨g, p * 5, none⟩ (.string axn)) ⟨g, p * 5 + 1, none⟩ (.bool axe))).frozen? ⟨g, p * 5 + 2, none⟩ = false := by simp only [World.frozen?_setCell]; exact g2
       have k3 : ((World.setCell (World.setCell (World.setCell We ⟨g, p * 5, none⟩ (.string axn)) ⟨g, p * 5 + 1, none⟩ (.bool axe)) ⟨g, p * 5 + 2, none⟩ (.slice axF axf axp))).cell? ⟨g, p * 5 + 3, none⟩ = some u3 := by rw [cell_beside (by go_light; omega), cell_beside (by go_light; omega), cell_beside (by go_light; omega)]; exact p3
       have m3 : ((World.setCell (World.setCell (World.setCell We ⟨g, p * 5, none⟩ (.string axn)) ⟨g, p * 5 + 1, none⟩ (.bool axe)) ⟨g, p * 5 + 2, none⟩ (.slice axF axf axp))).frozen? ⟨g, p * 5 + 3, none⟩ = false := by simp only [World.frozen?_setCell]; exact g3
       have k4 : ((World.setCell (World.setCell (World.setCell (World.setCell We ⟨g, p * 5, none⟩ (.string axn)) ⟨g, p * 5 + 1, none⟩ (.bool axe)) ⟨g, p * 5 + 2, none⟩ (.slice axF axf axp)) ⟨g, p * 5 + 3, none⟩ (.slice axG axg axq))).cell? ⟨g, p * 5 + 4, none⟩ = some u4 := by rw [cell_beside (by go_light; omega), cell_beside (by go_light; omega), cell_beside (by go_light; omega), cell_beside (by go_light; omega)]; exact p4
       have m4 : ((World.setCell (World.setCell (World.setCell (World.setCell We ⟨g, p * 5, none⟩ (.string axn)) ⟨g, p * 5 + 1, none⟩ (.bool axe)) ⟨g, p * 5 + 2, none⟩ (.slice axF axf axp)) ⟨g, p * 5 + 3, none⟩ (.slice axG axg axq))).frozen? ⟨g, p * 5 + 4, none⟩ = false := by simp only [World.frozen?_setCell]; exact g4
       refine lateP_one (i := 17) rfl (by kernel_rfl) (fun K hK => ?_)
       go_simp
       refine hK.out _ _ (fun h => absurd h (by decide)) ?_
       clear hK K
       try simp only [pu]
       refine lateP_done (by kernel_rfl) ?_ _
       change Exit.inBlock _ _ _ _ (setCells We g (p * 5) [.string axn, .bool axe, .slice axF axf axp, .slice axG axg axq, .slice axI axi axr])
       have hGz := grown_via (grown_via hGd hGe (.inl rfl)) hGf (.inl rfl)
       clear p0 g0 p1 g1 p2 g2 p3 g3 p4 g4 k1 m1 k2 m2 k3 m3 k4 m4 hOd hOe hGd hGe hrAd hrBd hrAe hpz hle hl5
       generalize setCells We g (p * 5) [.string axn, .bool axe, .slice axF axf axp, .slice axG axg axq, .slice axI axi axr] = Wf at *
       simp only [List.length_set] at hOf
       rw [hzl] at hOf
       go_wp2_with fail
       go_roundw
       case rel => exact ⟨p, (zs.set q ⟨bxn, bxe, bxF, bxf, bxp, bxG, bxg, bxq, bxI, bxi, bxr⟩).set p ⟨axn, axe, axF, axf, axp, axG, axg, axq, axI, axi, axr⟩, rfl, Hpk.out.2, by simp only [List.length_set]; exact hzl, HQs.out, hOf, hGz⟩
       case measure => go_light; have := Hpk.out; simp [intOf]; omega
      ·have HQz := Lib.hid hQ
       have hki : ¬ (i : Int) < k := by omega
       clear hQ
       go_wp2_with fail
       refine bodyPost_ret (results_none rfl _ _ _) rfl ?_
       exact ⟨rfl, zs, hzl.trans Hnn.out, HQz.out, by rw [← Hnn.out]; exact hO, hG⟩
  ·--[M3
   have em2 : ((b : Int) - m == 1) = false := by simp; omega
   obtain ⟨hh, hhe⟩ : ∃ h, h = (a + b) / 2 := ⟨_, rfl⟩
   have es : IntKind.i64.wrap ((a : Int) + b) = (a : Int) + b := IntWalk.i64_in _ (by omega)
   have eu : IntKind.u64.wrap ((a : Int) + b) = (a : Int) + b := wrap_u64 _ (by omega) (by omega)
   have eh : ((a : Int) + b) / 2 = (hh : Int) := by omega
   have ei : IntKind.i64.wrap (hh : Int) = (hh : Int) := IntWalk.i64_in _ (by omega)
   have ev : IntKind.u64.wrap (hh : Int) = (hh : Int) := wrap_u64 _ (by omega) (by omega)
   obtain ⟨nm, hnm⟩ : ∃ x, x = hh + m := ⟨_, rfl⟩
   obtain ⟨pm, hpm⟩ : ∃ x, x = nm - 1 := ⟨_, rfl⟩
   have ew : IntKind.i64.wrap ((hh : Int) + m) = (nm : Int) := by rw [show (hh : Int) + m = (nm : Int) by omega]; exact IntWalk.i64_in _ (by omega)
   have ep : IntKind.i64.wrap ((nm : Int) - 1) = (pm : Int) := by rw [show (nm : Int) - 1 = (pm : Int) by omega]; exact IntWalk.i64_in _ (by omega)
   have Hm := Lib.hid (show hh = (a + b) / 2 ∧ nm = hh + m ∧ pm = nm - 1 ∧ 2 ≤ m - a ∧ 2 ≤ b - m ∧ a < hh ∧ hh < b by omega)
   have Hd := Lib.hid hd
   clear hhe hnm hpm hma hbm hd
   go_upto_if 140 with fail
   clear e1 e2 em em2 es eu eh ei ev
   obtain ⟨tm, htm⟩ : ∃ t, t = decide (hh < m) := ⟨_, rfl⟩
   rw [← htm]
   have Htm := Lib.hid htm
   clear htm
   go_cut [20, 21] from 141 to 146 (fun c20 c21 wx => ∃ s r : Nat, c20 = .int .i64 s ∧ c21 = .int .i64 r ∧ a ≤ s ∧ s ≤ r ∧ r ≤ hh ∧ r ≤ m ∧ nm ≤ b + s ∧ wx.grownBy wx none ∧ w = wx)
   case first =>
    cases tm with
    | true =>
     have hmm : hh < m := by have := Htm.out; simpa using this.symm
     have e1 : IntKind.i64.wrap ((nm : Int) - b) = ((nm - b : Nat) : Int) := by rw [show (nm : Int) - b = ((nm - b : Nat) : Int) by have := Hm.out; omega]; exact IntWalk.i64_in _ (by have := Hm.out; omega)
     obtain ⟨sb, hsb⟩ : ∃ x, x = nm - b := ⟨_, rfl⟩
     rw [← hsb] at e1
     have Hr := Lib.hid (show a ≤ sb ∧ sb ≤ hh ∧ hh ≤ m ∧ nm ≤ b + sb by have := Hm.out; omega)
     clear hsb hmm
     go_wp2_with fail
     go_meet
     case rel => exact ⟨sb, hh, rfl, rfl, Hr.out.1, Hr.out.2.1, Nat.le_refl _, Hr.out.2.2.1, Hr.out.2.2.2, grown_below (Below.refl _ _) _, rfl⟩
    | false =>
     have hmm : ¬ hh < m := by have := Htm.out; simpa using this.symm
     have Hr := Lib.hid (show a ≤ m ∧ m ≤ hh ∧ nm ≤ b + a by have := Hm.out; omega)
     clear hmm
     go_wp2_with fail
     go_meet
     case rel => exact ⟨a, m, rfl, rfl, Nat.le_refl _, Hr.out.1, Hr.out.2.1, Nat.le_refl _, Hr.out.2.2, grown_below (Below.refl _ _) _, rfl⟩
   case rest =>
    obtain ⟨s0, r0, rfl, rfl, h1, h2, h3, h4, h5, -, rfl⟩ := hcut
    go_wp2_with fail
    clear ew ep
    go_loopw [20, 21] (fun c20 c21 wr => ∃ (s r : Nat) (zs : List TypeC), c20 = .int .i64 s ∧ c21 = .int .i64 r ∧ a ≤ s ∧ s ≤ r ∧ r ≤ hh ∧ r ≤ m ∧ nm ≤ b + s ∧ zs.length = n ∧ (zs.Perm L) ∧ Own base 40 5 RTypeC T wr (Value.slice (some ⟨g, 0, none⟩) n cap) zs ∧ w.grownBy wr (some g)) (fun c20 c21 _ => (intOf c21).toNat - (intOf c20).toNat)
    case atStart => exact ⟨s0, r0, xs, rfl, rfl, h1, h2, h3, h4, h5, Hnn.out.symm, HQ.out, HO.out, grown_below (Below.refl _ _) _⟩
    case round =>
     clear h1 h2 h3 h4 h5
     obtain ⟨s, r, zs, rfl, rfl, h1, h2, h3, h4, h5, hzl, hQ, hO, hG⟩ := hrel
     by_cases hlt : s < r
     ·--[C1
      obtain ⟨ch, hche⟩ : ∃ h, h = (s + r) / 2 := ⟨_, rfl⟩
      have hmo := Hm.out
      obtain ⟨q, hqe⟩ : ∃ q, q = pm - ch := ⟨_, rfl⟩
      obtain ⟨p, hpe⟩ : ∃ p, p = ch := ⟨_, rfl⟩
      have hz1 : q < zs.length := by omega
      have hz0 : p < zs.length := by omega
      obtain ⟨ra, la⟩ := elemRow hO hz1
      obtain ⟨rb, lb⟩ := elemRow hO hz0
      have hc : (fun W' => (World.cell? W' ⟨g, q * 5, none⟩ = some (.string zs[q].name) ∧ World.cell? W' ⟨g, q * 5 + 1, none⟩ = some (.bool zs[q].enum) ∧ World.cell? W' ⟨g, q * 5 + 2, none⟩ = some (.slice zs[q].F zs[q].f zs[q].p) ∧ World.cell? W' ⟨g, q * 5 + 3, none⟩ = some (.slice zs[q].G zs[q].g zs[q].q) ∧ World.cell? W' ⟨g, q * 5 + 4, none⟩ = some (.slice zs[q].I zs[q].i zs[q].r)) ∧ (World.cell? W' ⟨g, p * 5, none⟩ = some (.string zs[p].name) ∧ World.cell? W' ⟨g, p * 5 + 1, none⟩ = some (.bool zs[p].enum) ∧ World.cell? W' ⟨g, p * 5 + 2, none⟩ = some (.slice zs[p].F zs[p].f zs[p].p) ∧ World.cell? W' ⟨g, p * 5 + 3, none⟩ = some (.slice zs[p].G zs[p].g zs[p].q) ∧ World.cell? W' ⟨g, p * 5 + 4, none⟩ = some (.slice zs[p].I zs[p].i zs[p].r))) wr := ⟨⟨(by have := la.at_ 0 rfl; simpa using this), la.at_ 1 rfl, la.at_ 2 rfl, la.at_ 3 rfl, la.at_ 4 rfl⟩, ⟨(by have := lb.at_ 0 rfl; simpa using this), lb.at_ 1 rfl, lb.at_ 2 rfl, lb.at_ 3 rfl, lb.at_ 4 rfl⟩⟩
      have qA : QRow zs[q] := trivial
      have qB : QRow zs[p] := trivial
      have HQs := Lib.hid (swap_perm hz1 hz0 hQ)
      have HQz := Lib.hid hQ
      have hOs := fun (W' : World) (hO' : Own base 40 5 RTypeC T W' (Value.slice (some ⟨g, 0, none⟩) zs.length cap) zs) (hr : RTypeC T W' [.string zs[p].name, .bool zs[p].enum, .slice zs[p].F zs[p].f zs[p].p, .slice zs[p].G zs[p].g zs[p].q, .slice zs[p].I zs[p].i zs[p].r] zs[p]) => hO'.store RTypeC.fair hz1 (cs := [.string zs[p].name, .bool zs[p].enum, .slice zs[p].F zs[p].f zs[p].p, .slice zs[p].G zs[p].g zs[p].q, .slice zs[p].I zs[p].i zs[p].r]) (x := zs[p]) rfl hr
      have hOt := fun (W' : World) (hO' : Own base 40 5 RTypeC T W' (Value.slice (some ⟨g, 0, none⟩) (zs.set q zs[p]).length cap) (zs.set q zs[p])) (hr : RTypeC T W' [.string zs[q].name, .bool zs[q].enum, .slice zs[q].F zs[q].f zs[q].p, .slice zs[q].G zs[q].g zs[q].q, .slice zs[q].I zs[q].i zs[q].r] zs[q]) => hO'.store RTypeC.fair (i := p) (by rw [List.length_set]; exact hz0) (cs := [.string zs[q].name, .bool zs[q].enum, .slice zs[q].F zs[q].f zs[q].p, .slice zs[q].G zs[q].g zs[q].q, .slice zs[q].I zs[q].i zs[q].r]) (x := zs[q]) rfl hr
      have hnT : ¬ T g := own_not hO
      have hlr := own_lt hO
      clear la lb
      obtain ⟨A, hA⟩ : ∃ A, A = zs[q] := ⟨_, rfl⟩
      obtain ⟨B, hB⟩ : ∃ B, B = zs[p] := ⟨_, rfl⟩
      rw [← hA] at hc ra qA HQs hOt
      rw [← hB] at hc rb qB HQs hOs hOt
      obtain ⟨axn, axe, axF, axf, axp, axG, axg, axq, axI, axi, axr⟩ := A
      obtain ⟨bxn, bxe, bxF, bxf, bxp, bxG, bxg, bxq, bxI, bxi, bxr⟩ := B
      dsimp only at hc ra rb hOs hOt
      have Hra := Lib.hid ra
      have Hrb := Lib.hid rb
      have HOs := Lib.hid hOs
      have HOt := Lib.hid hOt
      have HnT := Lib.hid hnT
      have HqA := Lib.hid qA
      have HqB := Lib.hid qB
      clear hQ qA qB hA hB hOs hOt ra rb hnT
      have es : IntKind.i64.wrap ((s : Int) + r) = (s : Int) + r := IntWalk.i64_in _ (by omega)
      have eu : IntKind.u64.wrap ((s : Int) + r) = (s : Int) + r := wrap_u64 _ (by omega) (by omega)
      have eh : ((s : Int) + r) / 2 = (ch : Int) := by omega
      have ei : IntKind.i64.wrap (ch : Int) = (ch : Int) := IntWalk.i64_in _ (by omega)
      have ev : IntKind.u64.wrap (ch : Int) = (ch : Int) := wrap_u64 _ (by omega) (by omega)
      have e7 : IntKind.i64.wrap ((ch : Int) + 1) = (ch : Int) + 1 := IntWalk.i64_in _ (by omega)
      have e8 : IntKind.i64.wrap ((pm : Int) - ch) = (q : Int) := by rw [show (pm : Int) - ch = (q : Int) by omega]; exact IntWalk.i64_in _ (by omega)
      have hq1n : (q : Int) < n := by omega
      have hq0n : (p : Int) < n := by omega
      have hb2 : s ≤ ch ∧ ch < r := by omega
      subst hpe
      clear hche hqe hmo
      go_upto_region 35 with fail
      clear es eu eh
      have hw := below_drew (Below.refl wr.heap.size wr)
      have hS : (fun W' => (World.cell? W' ⟨g, q * 5, none⟩ = some (.string axn) ∧ World.cell? W' ⟨g, q * 5 + 1, none⟩ = some (.bool axe) ∧ World.cell? W' ⟨g, q * 5 + 2, none⟩ = some (.slice axF axf axp) ∧ World.cell? W' ⟨g, q * 5 + 3, none⟩ = some (.slice axG axg axq) ∧ World.cell? W' ⟨g, q * 5 + 4, none⟩ = some (.slice axI axi axr)) ∧ (World.cell? W' ⟨g, p * 5, none⟩ = some (.string bxn) ∧ World.cell? W' ⟨g, p * 5 + 1, none⟩ = some (.bool bxe) ∧ World.cell? W' ⟨g, p * 5 + 2, none⟩ = some (.slice bxF bxf bxp) ∧ World.cell? W' ⟨g, p * 5 + 3, none⟩ = some (.slice bxG bxg bxq) ∧ World.cell? W' ⟨g, p * 5 + 4, none⟩ = some (.slice bxI bxi bxr))) wr.drew := hc
      have hld : g < wr.drew.heap.size := hlr
      refine lateP_start (fun W' => (World.cell? W' ⟨g, q * 5, none⟩ = some (.string axn) ∧ World.cell? W' ⟨g, q * 5 + 1, none⟩ = some (.bool axe) ∧ World.cell? W' ⟨g, q * 5 + 2, none⟩ = some (.slice axF axf axp) ∧ World.cell? W' ⟨g, q * 5 + 3, none⟩ = some (.slice axG axg axq) ∧ World.cell? W' ⟨g, q * 5 + 4, none⟩ = some (.slice axI axi axr)) ∧ (World.cell? W' ⟨g, p * 5, none⟩ = some (.string bxn) ∧ World.cell? W' ⟨g, p * 5 + 1, none⟩ = some (.bool bxe) ∧ World.cell? W' ⟨g, p * 5 + 2, none⟩ = some (.slice bxF bxf bxp) ∧ World.cell? W' ⟨g, p * 5 + 3, none⟩ = some (.slice bxG bxg bxq) ∧ World.cell? W' ⟨g, p * 5 + 4, none⟩ = some (.slice bxI bxi bxr))) (fun _ => true) (by kernel_rfl) ?_
      generalize wr.drew = Wd at hw hS hld ⊢
      clear hc
      refine ppP 0 ?_
      try simp only [pu]
      refine ppP 1 ?_
      try simp only [pu]
      refine ppP 2 ?_
      try simp only [pu]
      refine ppP 3 ?_
      try simp only [pu]
      refine ppP 4 ?_
      try simp only [pu]
      refine ppP 5 ?_
      try simp only [pu]
      refine tkP 6 hS ?_
      try simp only [pu]
      refine ppP 7 ?_
      try simp only [pu]
      refine ppP 8 ?_
      try simp only [pu]
      refine ppP 9 ?_
      try simp only [pu]
      refine tkP 10 hS ?_
      try simp only [pu]
      refine lateP_one (i := 11) rfl (by kernel_rfl) (fun K hK => ?_)
      go_simp
      refine (cmpRow_any T T ⟨axn, axe, axF, axf, axp, axG, axg, axq, axI, axi, axr⟩ ⟨bxn, bxe, bxF, bxf, bxp, bxG, bxg, bxq, bxI, bxi, bxr⟩ _ _ _ (RTypeC.fair.below Hra.out hw) (RTypeC.fair.below Hrb.out hw) HqA.out HqB.out).mono ?_
      rintro e w5 ⟨rfl, hb5⟩
      replace hS : (fun W' => (World.cell? W' ⟨g, q * 5, none⟩ = some (.string axn) ∧ World.cell? W' ⟨g, q * 5 + 1, none⟩ = some (.bool axe) ∧ World.cell? W' ⟨g, q * 5 + 2, none⟩ = some (.slice axF axf axp) ∧ World.cell? W' ⟨g, q * 5 + 3, none⟩ = some (.slice axG axg axq) ∧ World.cell? W' ⟨g, q * 5 + 4, none⟩ = some (.slice axI axi axr)) ∧ (World.cell? W' ⟨g, p * 5, none⟩ = some (.string bxn) ∧ World.cell? W' ⟨g, p * 5 + 1, none⟩ = some (.bool bxe) ∧ World.cell? W' ⟨g, p * 5 + 2, none⟩ = some (.slice bxF bxf bxp) ∧ World.cell? W' ⟨g, p * 5 + 3, none⟩ = some (.slice bxG bxg bxq) ∧ World.cell? W' ⟨g, p * 5 + 4, none⟩ = some (.slice bxI bxi bxr))) w5 := ⟨⟨(hb5.cell (p := ⟨g, q * 5, none⟩) hld).trans hS.1.1, (hb5.cell (p := ⟨g, q * 5 + 1, none⟩) hld).trans hS.1.2.1, (hb5.cell (p := ⟨g, q * 5 + 2, none⟩) hld).trans hS.1.2.2.1, (hb5.cell (p := ⟨g, q * 5 + 3, none⟩) hld).trans hS.1.2.2.2.1, (hb5.cell (p := ⟨g, q * 5 + 4, none⟩) hld).trans hS.1.2.2.2.2⟩, ⟨(hb5.cell (p := ⟨g, p * 5, none⟩) hld).trans hS.2.1, (hb5.cell (p := ⟨g, p * 5 + 1, none⟩) hld).trans hS.2.2.1, (hb5.cell (p := ⟨g, p * 5 + 2, none⟩) hld).trans hS.2.2.2.1, (hb5.cell (p := ⟨g, p * 5 + 3, none⟩) hld).trans hS.2.2.2.2.1, (hb5.cell (p := ⟨g, p * 5 + 4, none⟩) hld).trans hS.2.2.2.2.2⟩⟩
      replace hw := below_via hw hb5 hw.size
      obtain ⟨cv, hcv⟩ : ∃ c, c = cmpS axn bxn := ⟨_, rfl⟩
      try dsimp only
      rw [← hcv]
      clear hcv
      refine hK.out _ _ (fun _ _ => hS) ?_
      clear hK K
      try simp only [pu]
      refine ppP 12 ?_
      try simp only [pu]
      refine ppP 13 ?_
      try simp only [pu]
      refine lateP_done (by kernel_rfl) ?_ _
      have hO5 := hO.below RTypeC.fair hw
      have hG5 := grown_via hG (grown_below hw (some g)) (.inl rfl)
      clear hO hG hw hlr hb5 hS hld HQs HOs HOt Hra Hrb HnT HqA HqB
      by_cases hc : cv < 0
      ·have ec : decide (cv < 0) = true := by simpa using hc
       clear hc
       rw [ec]
       clear ec
       go_wp2_with fail
       go_roundw
       case rel => exact ⟨s, p, zs, rfl, rfl, h1, by go_light; omega, by go_light; omega, by go_light; omega, h5, hzl, HQz.out, hO5, hG5⟩
       case measure => go_light; simp [intOf]; omega
      ·have ec : decide (cv < 0) = false := by simpa using hc
       clear hc
       rw [ec]
       clear ec
       go_wp2_with fail
       go_roundw
       case rel => exact ⟨p + 1, r, zs, by simp, rfl, by go_light; omega, by go_light; omega, h3, h4, by go_light; omega, hzl, HQz.out, hO5, hG5⟩
       case measure => go_light; simp [intOf]; omega
     ·--[C2
      have HQz := Lib.hid hQ
      have hmo := Hm.out
      obtain ⟨en, hen⟩ : ∃ x, x = nm - s := ⟨_, rfl⟩
      have ee : IntKind.i64.wrap ((nm : Int) - s) = (en : Int) := by rw [show (nm : Int) - s = (en : Int) by omega]; exact IntWalk.i64_in _ (by omega)
      have He := Lib.hid (show en ≤ b ∧ m ≤ en ∧ hh ≤ en ∧ s ≤ m ∧ s ≤ hh ∧ a ≤ s by omega)
      clear hQ hen hmo h1 h2 h3 h4 h5
      go_upto_region 39 with fail
      clear ee hlt
      go_cut [185] from 178 to 185 (fun c wx => c = .bool (decide (s < m) && decide (m < en)) ∧ wx = wr)
      case first =>
       by_cases h1 : s < m
       ·have e1 : decide ((s : Int) < m) = true := by simp; omega
        have e2 : decide (s < m) = true := by simpa using h1
        go_wp2_with fail
        go_meet
        case rel => exact ⟨by first | rfl | simp [e2], rfl⟩
       ·have e1 : decide ((s : Int) < m) = false := by simp; omega
        have e2 : decide (s < m) = false := by simpa using h1
        go_wp2_with fail
        go_meet
        case rel => exact ⟨by first | rfl | simp [e2], rfl⟩
      case rest =>
       obtain ⟨rfl, rfl⟩ := hcut
       obtain ⟨WA, hWA⟩ : ∃ V, V = wc := ⟨_, rfl⟩
       subst hWA
       obtain ⟨tw, htw⟩ : ∃ tw, tw = (decide (s < m) && decide (m < en)) := ⟨_, rfl⟩
       rw [← htw]
       have Htw := Lib.hid htw
       clear htw
       go_upto_if 185 with fail
       go_cut [] from 185 to 191 (fun wx => ∃ zs : List TypeC, zs.length = n ∧ (zs.Perm L) ∧ Own base 40 5 RTypeC T wx (Value.slice (some ⟨g, 0, none⟩) n cap) zs ∧ w.grownBy wx (some g))
       case first =>
        cases tw with
        | true =>
         have h12 : s < m ∧ m < en := by have := Htw.out; simpa using this.symm
         have hc := Lib.hid (Hrot.out zs WA hzl (by rw [hzl]; exact hO) HQz.out s m en h12.1 h12.2 (by have := He.out; omega))
         rw [hzl] at hc
         clear h12 hO
         go_wp2_with fail
         refine hc.out.mono ?_
         rintro e w5 ⟨rfl, ys, hyl, hyQ, hyO, hyG⟩
         have HyQ := Lib.hid hyQ
         rw [hzl] at hyO
         have hyG' := grown_via hG hyG (.inl rfl)
         clear hyQ hyG hG hc
         go_wp2_with fail
         go_meet
         case rel => exact ⟨ys, hyl.trans hzl, HyQ.out, hyO, hyG'⟩
        | false =>
         go_wp2_with fail
         go_meet
         case rel => exact ⟨zs, hzl, HQz.out, hO, hG⟩
       case rest =>
        clear hO hG hzl HQz Htw zs
        obtain ⟨zs, hzl, hQ, hO, hG⟩ := hcut
        have HQz := Lib.hid hQ
        clear hQ
        go_upto_region 41 with fail
        go_cut [199] from 192 to 199 (fun c wx => c = .bool (decide (a < s) && decide (s < hh)) ∧ wx = wc)
        case first =>
         by_cases h1 : a < s
         ·have e1 : decide ((a : Int) < s) = true := by simp; omega
          have e2 : decide (a < s) = true := by simpa using h1
          go_wp2_with fail
          go_meet
          case rel => exact ⟨by first | rfl | simp [e2], rfl⟩
         ·have e1 : decide ((a : Int) < s) = false := by simp; omega
          have e2 : decide (a < s) = false := by simpa using h1
          go_wp2_with fail
          go_meet
          case rel => exact ⟨by first | rfl | simp [e2], rfl⟩
        case rest =>
         obtain ⟨rfl, rfl⟩ := hcut
         obtain ⟨WB, hWB⟩ : ∃ V, V = wc := ⟨_, rfl⟩
         subst hWB
         obtain ⟨tx, htx⟩ : ∃ tw, tw = (decide (a < s) && decide (s < hh)) := ⟨_, rfl⟩
         rw [← htx]
         have Htx := Lib.hid htx
         clear htx
         go_upto_if 199 with fail
         go_cut [] from 199 to 205 (fun wx => ∃ zs : List TypeC, zs.length = n ∧ (zs.Perm L) ∧ Own base 40 5 RTypeC T wx (Value.slice (some ⟨g, 0, none⟩) n cap) zs ∧ w.grownBy wx (some g))
         case first =>
          cases tx with
          | true =>
           have h12 : a < s ∧ s < hh := by have := Htx.out; simpa using this.symm
           have hc := Lib.hid (Hih.out zs WB hzl (by rw [hzl]; exact hO) HQz.out a s hh h12.1 h12.2 (by have := Hm.out; omega) (by have := Hm.out; have := Hd.out; omega))
           rw [hzl] at hc
           clear h12 hO
           go_wp2_with fail
           refine hc.out.mono ?_
           rintro e w5 ⟨rfl, ys, hyl, hyQ, hyO, hyG⟩
           have HyQ := Lib.hid hyQ
           rw [hzl] at hyO
           have hyG' := grown_via hG hyG (.inl rfl)
           clear hyQ hyG hG hc
           go_wp2_with fail
           go_meet
           case rel => exact ⟨ys, hyl.trans hzl, HyQ.out, hyO, hyG'⟩
          | false =>
           go_wp2_with fail
           go_meet
           case rel => exact ⟨zs, hzl, HQz.out, hO, hG⟩
         case rest =>
          clear hO hG hzl HQz Htx zs
          obtain ⟨zs, hzl, hQ, hO, hG⟩ := hcut
          have HQz := Lib.hid hQ
          clear hQ
          go_upto_region 43 with fail
          go_cut [213] from 206 to 213 (fun c wx => c = .bool (decide (hh < en) && decide (en < b)) ∧ wx = wc)
          case first =>
           by_cases h1 : hh < en
           ·have e1 : decide ((hh : Int) < en) = true := by simp; omega
            have e2 : decide (hh < en) = true := by simpa using h1
            go_wp2_with fail
            go_meet
            case rel => exact ⟨by first | rfl | simp [e2], rfl⟩
           ·have e1 : decide ((hh : Int) < en) = false := by simp; omega
            have e2 : decide (hh < en) = false := by simpa using h1
            go_wp2_with fail
            go_meet
            case rel => exact ⟨by first | rfl | simp [e2], rfl⟩
          case rest =>
           obtain ⟨rfl, rfl⟩ := hcut
           obtain ⟨ty, hty⟩ : ∃ tw, tw = (decide (hh < en) && decide (en < b)) := ⟨_, rfl⟩
           rw [← hty]
           have Hty := Lib.hid hty
           clear hty
           cases ty with
           | true =>
            have h12 : hh < en ∧ en < b := by have := Hty.out; simpa using this.symm
            have hc := Lib.hid (Hih.out zs wc hzl (by rw [hzl]; exact hO) HQz.out hh en b h12.1 h12.2 (by omega) (by have := Hm.out; have := Hd.out; omega))
            rw [hzl] at hc
            clear h12 hO
            go_wp2_with fail
            refine hc.out.mono ?_
            rintro e w5 ⟨rfl, ys, hyl, hyQ, hyO, hyG⟩
            have HyQ := Lib.hid hyQ
            rw [hzl] at hyO
            have hyG' := grown_via hG hyG (.inl rfl)
            clear hyQ hyG hG hc
            go_wp2_with fail
            refine bodyPost_end (results_none rfl _ _ _) rfl ?_
            exact ⟨rfl, ys, (hyl.trans hzl).trans Hnn.out, HyQ.out, by rw [← Hnn.out]; exact hyO, hyG'⟩
           | false =>
            go_wp2_with fail
            refine bodyPost_end (results_none rfl _ _ _) rfl ?_
            exact ⟨rfl, zs, hzl.trans Hnn.out, HQz.out, by rw [← Hnn.out]; exact hO, hG⟩
end Go.Proofs.YtfobdbhmfohfnaaGreatDoor
