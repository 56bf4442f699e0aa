/- The walks of the sort of the reader's rows (Row): the comparison, the insertion. -/
import Derived.Test.YtfobdbhmfohfnaaGreatDoorProg
import Derived.Test.YtfobdbhmfohfnaaGreatDoorBase
import Derived.Test.YtfobdbhmfohfnaaGreatDoorRowCmp
import Derived.Test.YtfobdbhmfohfnaaGreatDoorLates
import Derived.Deep.DrawnRows
import Derived.Deep.Light
import Derived.Deep.DeepCutAuto
set_option linter.all false
set_option maxRecDepth 100000
set_option maxHeartbeats 8000000
namespace Go.Proofs.YtfobdbhmfohfnaaGreatDoor
open Go.RowKit
attribute [local go_sem ↓] Go.wp_at_zero Go.wp_at_succ
variable {L : List TypeC}
theorem elemRow {base : Nat} {T : Nat → Prop} {w : World} {g cap n : Nat} {xs : List TypeC} (h : Own base 40 5 RTypeC T w (Value.slice (some ⟨g, 0, none⟩) n cap) xs) {i : Nat} (hi : i < xs.length) :
  RTypeC T w [.string xs[i].name, .bool xs[i].enum, .slice xs[i].F xs[i].f xs[i].p, .slice xs[i].G xs[i].g xs[i].q, .slice xs[i].I xs[i].i xs[i].r] xs[i] ∧ Lies w g (i * 5) [.string xs[i].name, .bool xs[i].enum, .slice xs[i].F xs[i].f xs[i].p, .slice xs[i].G xs[i].g xs[i].q, .slice xs[i].I xs[i].i xs[i].r] := by
 obtain ⟨cs, _, hr, hl⟩ := h.cells hi
 have hr' : cs = [.string xs[i].name, .bool xs[i].enum, .slice xs[i].F xs[i].f xs[i].p, .slice xs[i].G xs[i].g xs[i].q, .slice xs[i].I xs[i].i xs[i].r] := hr
 subst hr'
 exact ⟨hr, hl⟩
def EndRow (base : Nat) (T : Nat → Prop) (g cap a b : Nat) (xs : List TypeC) (w : World) (e : Ending) (w' : World) : Prop :=
 e = .returned (.tuple #[]) ∧ ∃ ys, ys.length = xs.length ∧ (ys.Perm L) ∧ Own base 40 5 RTypeC T w' (Value.slice (some ⟨g, 0, none⟩) xs.length cap) ys ∧ w.grownBy w' (some g) ∧ (a = 0 → b = xs.length → ys = sortS ltRow xs)
theorem insRow_any (base : Nat) (T : Nat → Prop) (g cap a b : Nat) (xs : List TypeC) (w : World) (ho : Own base 40 5 RTypeC T w (Value.slice (some ⟨g, 0, none⟩) xs.length cap) xs) (hab : a ≤ b) (hb : b ≤ xs.length) (hn : xs.length ≤ 1000000) (hq : xs.Perm L) :
  Calls Tryz.prog 90 #[Value.slice (some ⟨g, 0, none⟩) xs.length cap, .int .i64 a, .int .i64 b, (Value.func (Fn.func 40) #[] #[])] w (EndRow (L := L) base T g cap a b xs w) := by
 have HO := Lib.hid ho
 have HQ := Lib.hid hq
 obtain ⟨n, hnn⟩ : ∃ n, n = xs.length := ⟨_, rfl⟩
 rw [← hnn] at hb hn HO ⊢
 have Hnn := Lib.hid hnn
 have e0 : IntKind.i64.wrap ((a : Int) + 1) = (a : Int) + 1 := IntWalk.i64_in _ (by omega)
 clear ho hq hnn
 go_enter Tryz.func90, Tryz.ntmps90
 go_wp2_with fail
 clear e0
 go_loopw [8] (fun i wr => ∃ (m : Nat) (ys : List TypeC), i = .int .i64 m ∧ a + 1 ≤ m ∧ ys.length = n ∧ (ys.Perm L) ∧ Own base 40 5 RTypeC T wr (Value.slice (some ⟨g, 0, none⟩) n cap) ys ∧ w.grownBy wr (some g) ∧ (a = 0 → ys = sortS ltRow (xs.take m) ++ xs.drop m)) (fun i _ => b - (intOf i).toNat)
 case atStart => exact ⟨a + 1, xs, by simp, Nat.le_refl _, Hnn.out.symm, HQ.out, HO.out, grown_below (Below.refl _ _) _, fun h => by subst h; rw [sortS_one, List.take_append_drop]⟩
 case round =>
  obtain ⟨m, ys, rfl, hm, hl, hQ, hO, hG, hx⟩ := hrel
  by_cases hlt : m < b
  ·have hmn : m < xs.length := by have := Hnn.out; omega
   have Hst := Lib.hid (fun h => mid_start hmn (hx h))
   have HQy := Lib.hid hQ
   have Hmn := Lib.hid hmn
   clear hQ hx hmn
   go_wp2_with fail
   go_loopw [9] (fun j wi => ∃ (q : Nat) (zs : List TypeC), j = .int .i64 q ∧ a ≤ q ∧ q ≤ m ∧ zs.length = n ∧ (zs.Perm L) ∧ Own base 40 5 RTypeC T wi (Value.slice (some ⟨g, 0, none⟩) n cap) zs ∧ w.grownBy wi (some g) ∧ (a = 0 → Mid ltRow xs m q zs)) (fun j _ => (intOf j).toNat)
   case atStart => exact ⟨m, ys, rfl, by omega, Nat.le_refl _, hl, HQy.out, hO, hG, Hst.out⟩
   case round =>
    clear hO hG hl HQy Hst ys
    obtain ⟨q, zs, rfl, haq, hqm, hzl, hQ, hO, hG, hM⟩ := hrel
    by_cases hj : a < q
    ·obtain ⟨p, hp⟩ : ∃ p, q = p + 1 := ⟨q - 1, by omega⟩
     have hz1 : q < zs.length := by omega
     have hz0 : p < zs.length := by omega
     have HMs : Hid (a = 0 → ltRow zs[q] zs[p] = true → Mid ltRow xs m p ((zs.set q zs[p]).set p zs[q])) := fun h hl => by subst hp; exact mid_step Hmn.out (hM h) hz1 hl
     have HMe : Hid (a = 0 → ltRow zs[q] zs[p] = false → zs = sortS ltRow (xs.take (m + 1)) ++ xs.drop (m + 1)) := fun h hl => by subst hp; exact mid_end Hmn.out (hM h) (fun _ _ => by simpa using hl)
     obtain ⟨ra, la⟩ := elemRow hO hz1
     obtain ⟨rb, lb⟩ := elemRow hO hz0
     have hc : (fun W' => (World.cell? W' ⟨g, q * 5, none⟩ = some (.string zs[q].name) ∧ World.cell? W' ⟨g, q * 5 + 1, none⟩ = some (.bool zs[q].enum) ∧ World.cell? W' ⟨g, q * 5 + 2, none⟩ = some (.slice zs[q].F zs[q].f zs[q].p) ∧ World.cell? W' ⟨g, q * 5 + 3, none⟩ = some (.slice zs[q].G zs[q].g zs[q].q) ∧ World.cell? W' ⟨g, q * 5 + 4, none⟩ = some (.slice zs[q].I zs[q].i zs[q].r)) ∧ (World.cell? W' ⟨g, p * 5, none⟩ = some (.string zs[p].name) ∧ World.cell? W' ⟨g, p * 5 + 1, none⟩ = some (.bool zs[p].enum) ∧ World.cell? W' ⟨g, p * 5 + 2, none⟩ = some (.slice zs[p].F zs[p].f zs[p].p) ∧ World.cell? W' ⟨g, p * 5 + 3, none⟩ = some (.slice zs[p].G zs[p].g zs[p].q) ∧ World.cell? W' ⟨g, p * 5 + 4, none⟩ = some (.slice zs[p].I zs[p].i zs[p].r))) wr := ⟨⟨(by have := la.at_ 0 rfl; simpa using this), la.at_ 1 rfl, la.at_ 2 rfl, la.at_ 3 rfl, la.at_ 4 rfl⟩, ⟨(by have := lb.at_ 0 rfl; simpa using this), lb.at_ 1 rfl, lb.at_ 2 rfl, lb.at_ 3 rfl, lb.at_ 4 rfl⟩⟩
     have qA : QRow zs[q] := trivial
     have qB : QRow zs[p] := trivial
     have HQs := Lib.hid (swap_perm hz1 hz0 hQ)
     have HQz := Lib.hid hQ
     have hOs := fun (W' : World) (hO' : Own base 40 5 RTypeC T W' (Value.slice (some ⟨g, 0, none⟩) zs.length cap) zs) (hr : RTypeC T W' [.string zs[p].name, .bool zs[p].enum, .slice zs[p].F zs[p].f zs[p].p, .slice zs[p].G zs[p].g zs[p].q, .slice zs[p].I zs[p].i zs[p].r] zs[p]) => hO'.store RTypeC.fair hz1 (cs := [.string zs[p].name, .bool zs[p].enum, .slice zs[p].F zs[p].f zs[p].p, .slice zs[p].G zs[p].g zs[p].q, .slice zs[p].I zs[p].i zs[p].r]) (x := zs[p]) rfl hr
     have hOt := fun (W' : World) (hO' : Own base 40 5 RTypeC T W' (Value.slice (some ⟨g, 0, none⟩) (zs.set q zs[p]).length cap) (zs.set q zs[p])) (hr : RTypeC T W' [.string zs[q].name, .bool zs[q].enum, .slice zs[q].F zs[q].f zs[q].p, .slice zs[q].G zs[q].g zs[q].q, .slice zs[q].I zs[q].i zs[q].r] zs[q]) => hO'.store RTypeC.fair (i := p) (by rw [List.length_set]; exact hz0) (cs := [.string zs[q].name, .bool zs[q].enum, .slice zs[q].F zs[q].f zs[q].p, .slice zs[q].G zs[q].g zs[q].q, .slice zs[q].I zs[q].i zs[q].r]) (x := zs[q]) rfl hr
     have hnT : ¬ T g := own_not hO
     have hlr := own_lt hO
     clear la lb
     obtain ⟨A, hA⟩ : ∃ A, A = zs[q] := ⟨_, rfl⟩
     obtain ⟨B, hB⟩ : ∃ B, B = zs[p] := ⟨_, rfl⟩
     rw [← hA] at hc ra qA HQs hOt HMs HMe
     rw [← hB] at hc rb qB HQs hOs hOt HMs HMe
     obtain ⟨axn, axe, axF, axf, axp, axG, axg, axq, axI, axi, axr⟩ := A
     obtain ⟨bxn, bxe, bxF, bxf, bxp, bxG, bxg, bxq, bxI, bxi, bxr⟩ := B
     dsimp only at hc ra rb hOs hOt
     have Hra := Lib.hid ra
     have Hrb := Lib.hid rb
     have HOs := Lib.hid hOs
     have HOt := Lib.hid hOt
     have HnT := Lib.hid hnT
     have HqA := Lib.hid qA
     have HqB := Lib.hid qB
     clear hQ qA qB hA hB hOs hOt ra rb hnT
     have Hp := Lib.hid hp
     have ej : decide ((q : Int) > a) = true := by simp; omega
     have ej2 : decide ((a : Int) < (q : Int)) = true := by simp; omega
     have e5 : IntKind.i64.wrap ((q : Int) - 1) = (p : Int) := by rw [show (q : Int) - 1 = (p : Int) by omega]; exact IntWalk.i64_in _ (by omega)
     have hq1n : (q : Int) < n := by omega
     have hq0n : (p : Int) < n := by omega
     have Hpq := Lib.hid (show p ≠ q ∧ a ≤ p ∧ p ≤ m by omega)
     clear hM hp
     go_upto_region 4 with fail
     have hw := below_drew (Below.refl wr.heap.size wr)
     have hS : (fun W' => (World.cell? W' ⟨g, q * 5, none⟩ = some (.string axn) ∧ World.cell? W' ⟨g, q * 5 + 1, none⟩ = some (.bool axe) ∧ World.cell? W' ⟨g, q * 5 + 2, none⟩ = some (.slice axF axf axp) ∧ World.cell? W' ⟨g, q * 5 + 3, none⟩ = some (.slice axG axg axq) ∧ World.cell? W' ⟨g, q * 5 + 4, none⟩ = some (.slice axI axi axr)) ∧ (World.cell? W' ⟨g, p * 5, none⟩ = some (.string bxn) ∧ World.cell? W' ⟨g, p * 5 + 1, none⟩ = some (.bool bxe) ∧ World.cell? W' ⟨g, p * 5 + 2, none⟩ = some (.slice bxF bxf bxp) ∧ World.cell? W' ⟨g, p * 5 + 3, none⟩ = some (.slice bxG bxg bxq) ∧ World.cell? W' ⟨g, p * 5 + 4, none⟩ = some (.slice bxI bxi bxr))) wr.drew := hc
     have hld : g < wr.drew.heap.size := hlr
     refine lateP_start (fun W' => (World.cell? W' ⟨g, q * 5, none⟩ = some (.string axn) ∧ World.cell? W' ⟨g, q * 5 + 1, none⟩ = some (.bool axe) ∧ World.cell? W' ⟨g, q * 5 + 2, none⟩ = some (.slice axF axf axp) ∧ World.cell? W' ⟨g, q * 5 + 3, none⟩ = some (.slice axG axg axq) ∧ World.cell? W' ⟨g, q * 5 + 4, none⟩ = some (.slice axI axi axr)) ∧ (World.cell? W' ⟨g, p * 5, none⟩ = some (.string bxn) ∧ World.cell? W' ⟨g, p * 5 + 1, none⟩ = some (.bool bxe) ∧ World.cell? W' ⟨g, p * 5 + 2, none⟩ = some (.slice bxF bxf bxp) ∧ World.cell? W' ⟨g, p * 5 + 3, none⟩ = some (.slice bxG bxg bxq) ∧ World.cell? W' ⟨g, p * 5 + 4, none⟩ = some (.slice bxI bxi bxr))) (fun _ => true) (by kernel_rfl) ?_
     generalize wr.drew = Wd at hw hS hld ⊢
     clear hc
     refine ppP 0 ?_
     try simp only [pu]
     refine ppP 1 ?_
     try simp only [pu]
     refine ppP 2 ?_
     try simp only [pu]
     refine ppP 3 ?_
     try simp only [pu]
     refine ppP 4 ?_
     try simp only [pu]
     refine ppP 5 ?_
     try simp only [pu]
     refine ppP 6 ?_
     try simp only [pu]
     refine ppP 7 ?_
     try simp only [pu]
     refine tkP 8 hS ?_
     try simp only [pu]
     refine ppP 9 ?_
     try simp only [pu]
     refine ppP 10 ?_
     try simp only [pu]
     refine ppP 11 ?_
     try simp only [pu]
     refine ppP 12 ?_
     try simp only [pu]
     refine tkP 13 hS ?_
     try simp only [pu]
     refine lateP_one (i := 14) rfl (by kernel_rfl) (fun K hK => ?_)
     go_simp
     refine (cmpRow_any T T ⟨axn, axe, axF, axf, axp, axG, axg, axq, axI, axi, axr⟩ ⟨bxn, bxe, bxF, bxf, bxp, bxG, bxg, bxq, bxI, bxi, bxr⟩ _ _ _ (RTypeC.fair.below Hra.out hw) (RTypeC.fair.below Hrb.out hw) HqA.out HqB.out).mono ?_
     rintro e w5 ⟨rfl, hb5⟩
     replace hS : (fun W' => (World.cell? W' ⟨g, q * 5, none⟩ = some (.string axn) ∧ World.cell? W' ⟨g, q * 5 + 1, none⟩ = some (.bool axe) ∧ World.cell? W' ⟨g, q * 5 + 2, none⟩ = some (.slice axF axf axp) ∧ World.cell? W' ⟨g, q * 5 + 3, none⟩ = some (.slice axG axg axq) ∧ World.cell? W' ⟨g, q * 5 + 4, none⟩ = some (.slice axI axi axr)) ∧ (World.cell? W' ⟨g, p * 5, none⟩ = some (.string bxn) ∧ World.cell? W' ⟨g, p * 5 + 1, none⟩ = some (.bool bxe) ∧ World.cell? W' ⟨g, p * 5 + 2, none⟩ = some (.slice bxF bxf bxp) ∧ World.cell? W' ⟨g, p * 5 + 3, none⟩ = some (.slice bxG bxg bxq) ∧ World.cell? W' ⟨g, p * 5 + 4, none⟩ = some (.slice bxI bxi bxr))) w5 := ⟨⟨(hb5.cell (p := ⟨g, q * 5, none⟩) hld).trans hS.1.1, (hb5.cell (p := ⟨g, q * 5 + 1, none⟩) hld).trans hS.1.2.1, (hb5.cell (p := ⟨g, q * 5 + 2, none⟩) hld).trans hS.1.2.2.1, (hb5.cell (p := ⟨g, q * 5 + 3, none⟩) hld).trans hS.1.2.2.2.1, (hb5.cell (p := ⟨g, q * 5 + 4, none⟩) hld).trans hS.1.2.2.2.2⟩, ⟨(hb5.cell (p := ⟨g, p * 5, none⟩) hld).trans hS.2.1, (hb5.cell (p := ⟨g, p * 5 + 1, none⟩) hld).trans hS.2.2.1, (hb5.cell (p := ⟨g, p * 5 + 2, none⟩) hld).trans hS.2.2.2.1, (hb5.cell (p := ⟨g, p * 5 + 3, none⟩) hld).trans hS.2.2.2.2.1, (hb5.cell (p := ⟨g, p * 5 + 4, none⟩) hld).trans hS.2.2.2.2.2⟩⟩
     replace hw := below_via hw hb5 hw.size
     replace hld : g < w5.heap.size := Nat.lt_of_lt_of_le hld hb5.size
     obtain ⟨cv, hcv⟩ : ∃ c, c = cmpS axn bxn := ⟨_, rfl⟩
     have hsg : ltRow ⟨axn, axe, axF, axf, axp, axG, axg, axq, axI, axi, axr⟩ ⟨bxn, bxe, bxF, bxf, bxp, bxG, bxg, bxq, bxI, bxi, bxr⟩ = decide (cv < 0) := by rw [hcv]; exact sgnRow _ _
     have Hcv := Lib.hid hcv
     try dsimp only
     rw [← hcv]
     clear hcv
     refine hK.out _ _ (fun _ _ => hS) ?_
     clear hK K
     try simp only [pu]
     refine ppP 15 ?_
     try simp only [pu]
     refine ppP 16 ?_
     try simp only [pu]
     refine lateP_done (by kernel_rfl) ?_ _
     clear hb5 ej ej2
     have hO5 := hO.below RTypeC.fair hw
     have hG5 := grown_via hG (grown_below hw (some g)) (.inl rfl)
     have hrA5 := RTypeC.fair.below Hra.out hw
     have hrB5 := RTypeC.fair.below Hrb.out hw
     clear hO hG hw hlr
     by_cases hc : cv < 0
     ·have ec : decide (cv < 0) = true := by simpa using hc
      rw [ec] at hsg
      have HM2 := Lib.hid (fun h => HMs.out h hsg)
      clear hc hsg HMs HMe
      rw [ec]
      clear ec
      go_upto_region 6 with fail
      have hOd : Own base 40 5 RTypeC T w5.drew (Value.slice (some ⟨g, 0, none⟩) n cap) zs := hO5.below RTypeC.fair (below_drew (Below.refl w5.heap.size w5))
      have hGd := grown_via hG5 (grown_below (below_drew (Below.refl w5.heap.size w5)) (some g)) (.inl rfl)
      have hrAd := RTypeC.fair.below hrA5 (below_drew (Below.refl w5.heap.size w5))
      have hrBd := RTypeC.fair.below hrB5 (below_drew (Below.refl w5.heap.size w5))
      replace hS : (fun W' => (World.cell? W' ⟨g, q * 5, none⟩ = some (.string axn) ∧ World.cell? W' ⟨g, q * 5 + 1, none⟩ = some (.bool axe) ∧ World.cell? W' ⟨g, q * 5 + 2, none⟩ = some (.slice axF axf axp) ∧ World.cell? W' ⟨g, q * 5 + 3, none⟩ = some (.slice axG axg axq) ∧ World.cell? W' ⟨g, q * 5 + 4, none⟩ = some (.slice axI axi axr)) ∧ (World.cell? W' ⟨g, p * 5, none⟩ = some (.string bxn) ∧ World.cell? W' ⟨g, p * 5 + 1, none⟩ = some (.bool bxe) ∧ World.cell? W' ⟨g, p * 5 + 2, none⟩ = some (.slice bxF bxf bxp) ∧ World.cell? W' ⟨g, p * 5 + 3, none⟩ = some (.slice bxG bxg bxq) ∧ World.cell? W' ⟨g, p * 5 + 4, none⟩ = some (.slice bxI bxi bxr))) w5.drew := hS
      replace hld : g < w5.drew.heap.size := hld
      refine lateP_start (fun W' => (World.cell? W' ⟨g, q * 5, none⟩ = some (.string axn) ∧ World.cell? W' ⟨g, q * 5 + 1, none⟩ = some (.bool axe) ∧ World.cell? W' ⟨g, q * 5 + 2, none⟩ = some (.slice axF axf axp) ∧ World.cell? W' ⟨g, q * 5 + 3, none⟩ = some (.slice axG axg axq) ∧ World.cell? W' ⟨g, q * 5 + 4, none⟩ = some (.slice axI axi axr)) ∧ (World.cell? W' ⟨g, p * 5, none⟩ = some (.string bxn) ∧ World.cell? W' ⟨g, p * 5 + 1, none⟩ = some (.bool bxe) ∧ World.cell? W' ⟨g, p * 5 + 2, none⟩ = some (.slice bxF bxf bxp) ∧ World.cell? W' ⟨g, p * 5 + 3, none⟩ = some (.slice bxG bxg bxq) ∧ World.cell? W' ⟨g, p * 5 + 4, none⟩ = some (.slice bxI bxi bxr))) (fun i => i != 15 && i != 17) (by kernel_rfl) ?_
      generalize w5.drew = Wd at hOd hGd hS hld hrAd hrBd ⊢
      clear hO5 hG5 hrA5 hrB5
      refine ppP 0 ?_
      try simp only [pu]
      refine ppP 1 ?_
      try simp only [pu]
      refine ppP 2 ?_
      try simp only [pu]
      refine ppP 3 ?_
      try simp only [pu]
      refine ppP 4 ?_
      try simp only [pu]
      refine ppP 5 ?_
      try simp only [pu]
      refine ppP 6 ?_
      try simp only [pu]
      refine ppP 7 ?_
      try simp only [pu]
      refine ppP 8 ?_
      try simp only [pu]
      refine tkP 9 hS ?_
      try simp only [pu]
      refine ppP 10 ?_
      try simp only [pu]
      refine ppP 11 ?_
      try simp only [pu]
      refine ppP 12 ?_
      try simp only [pu]
      refine tkP 13 hS ?_
      try simp only [pu]
      refine ppP 14 ?_
      try simp only [pu]
      obtain ⟨⟨d0, d1, d2, d3, d4⟩, ⟨c0, c1, c2, c3, c4⟩⟩ := hS
      rw [← hzl] at hOd
      obtain ⟨hOe, hGe⟩ := HOs.out _ hOd hrBd
      have hrAe := RTypeC.fair.keep hrAd (Keep.of_grown hGe (fun k e => by injection e with e; rw [← e]; exact HnT.out))
      obtain ⟨hOf, hGf⟩ := HOt.out _ (by rw [List.length_set]; exact hOe) hrAe
      have hpz : p < (zs.set q ⟨bxn, bxe, bxF, bxf, bxp, bxG, bxg, bxq, bxI, bxi, bxr⟩).length := by rw [List.length_set]; exact hz0
      have f0 := hOd.frozen (q * 5)
      have g0 := hOe.frozen (p * 5)
      have f1 := hOd.frozen (q * 5 + 1)
      have g1 := hOe.frozen (p * 5 + 1)
      have f2 := hOd.frozen (q * 5 + 2)
      have g2 := hOe.frozen (p * 5 + 2)
      have f3 := hOd.frozen (q * 5 + 3)
      have g3 := hOe.frozen (p * 5 + 3)
      have f4 := hOd.frozen (q * 5 + 4)
      have g4 := hOe.frozen (p * 5 + 4)
      obtain ⟨cs5, hl5, -, ly⟩ := hOe.cells hpz
      have hle := own_lt hOe
      have p0 : ∃ u, World.cell? (setCells Wd g (q * 5) [.string bxn, .bool bxe, .slice bxF bxf bxp, .slice bxG bxg bxq, .slice bxI bxi bxr]) ⟨g, p * 5, none⟩ = some u := ⟨_, (by have := ly.at_ 0 (List.getElem?_eq_getElem (by omega)); rwa [Nat.add_zero] at this)⟩
      have p1 : ∃ u, World.cell? (setCells Wd g (q * 5) [.string bxn, .bool bxe, .slice bxF bxf bxp, .slice bxG bxg bxq, .slice bxI bxi bxr]) ⟨g, p * 5 + 1, none⟩ = some u := ⟨_, ly.at_ 1 (List.getElem?_eq_getElem (by omega))⟩
      have p2 : ∃ u, World.cell? (setCells Wd g (q * 5) [.string bxn, .bool bxe, .slice bxF bxf bxp, .slice bxG bxg bxq, .slice bxI bxi bxr]) ⟨g, p * 5 + 2, none⟩ = some u := ⟨_, ly.at_ 2 (List.getElem?_eq_getElem (by omega))⟩
      have p3 : ∃ u, World.cell? (setCells Wd g (q * 5) [.string bxn, .bool bxe, .slice bxF bxf bxp, .slice bxG bxg bxq, .slice bxI bxi bxr]) ⟨g, p * 5 + 3, none⟩ = some u := ⟨_, ly.at_ 3 (List.getElem?_eq_getElem (by omega))⟩
      have p4 : ∃ u, World.cell? (setCells Wd g (q * 5) [.string bxn, .bool bxe, .slice bxF bxf bxp, .slice bxG bxg bxq, .slice bxI bxi bxr]) ⟨g, p * 5 + 4, none⟩ = some u := ⟨_, ly.at_ 4 (List.getElem?_eq_getElem (by omega))⟩
      obtain ⟨u0, p0⟩ := p0
      obtain ⟨u1, p1⟩ := p1
      obtain ⟨u2, p2⟩ := p2
      obtain ⟨u3, p3⟩ := p3
      obtain ⟨u4, p4⟩ := p4
      clear ly
      have k1 : ((World.setCell Wd ⟨g, q * 5, none⟩ (.string bxn))).cell? ⟨g, q * 5 + 1, none⟩ = some (.bool axe) := by rw [cell_beside (by go_light; omega)]; exact d1
      have m1 : ((World.setCell Wd ⟨g, q * 5, none⟩ (.string bxn))).frozen? ⟨g, q * 5 + 1, none⟩ = false := by simp only [World.frozen?_setCell]; exact f1
      have k2 : ((World.setCell (World.setCell Wd ⟨g, q * 5, none⟩ (.string bxn)) ⟨g, q * 5 + 1, none⟩ (.bool bxe))).cell? ⟨g, q * 5 + 2, none⟩ = some (.slice axF axf axp) := by rw [cell_beside (by go_light; omega), cell_beside (by go_light; omega)]; exact d2
      have m2 : ((World.setCell (World.setCell Wd ⟨g, q * 5, none⟩ (.string bxn)) ⟨g, q * 5 + 1, none⟩ (.bool bxe))).frozen? ⟨g, q * 5 + 2, none⟩ = false := by simp only [World.frozen?_setCell]; exact f2
      have k3 : ((World.setCell (World.setCell (World.setCell Wd ⟨g, q * 5, none⟩ (.string bxn)) ⟨g, q * 5 + 1, none⟩ (.bool bxe)) ⟨g, q * 5 + 2, none⟩ (.slice bxF bxf bxp))).cell? ⟨g, q * 5 + 3, none⟩ = some (.slice axG axg axq) := by rw [cell_beside (by go_light; omega), cell_beside (by go_light; omega), cell_beside (by go_light; omega)]; exact d3
      have m3 : ((World.setCell (World.setCell (World.setCell Wd ⟨g, q * 5, none⟩ (.string bxn)) ⟨g, q * 5 + 1, none⟩ (.bool bxe)) ⟨g, q * 5 + 2, none⟩ (.slice bxF bxf bxp))).frozen? ⟨g, q * 5 + 3, none⟩ = false := by simp only [World.frozen?_setCell]; exact f3
      have k4 : ((World.setCell (World.setCell (World.setCell (World.setCell Wd ⟨g, q * 5, none⟩ (.string bxn)) ⟨g, q * 5 + 1, none⟩ (.bool bxe)) ⟨g, q * 5 + 2, none⟩ (.slice bxF bxf bxp)) ⟨g, q * 5 + 3, none⟩ (.slice bxG bxg bxq))).cell? ⟨g, q * 5 + 4, none⟩ = some (.slice axI axi axr) := by rw [cell_beside (by go_light; omega), cell_beside (by go_light; omega), cell_beside (by go_light; omega), cell_beside (by go_light; omega)]; exact d4
      have m4 : ((World.setCell (World.setCell (World.setCell (World.setCell Wd ⟨g, q * 5, none⟩ (.string bxn)) ⟨g, q * 5 + 1, none⟩ (.bool bxe)) ⟨g, q * 5 + 2, none⟩ (.slice bxF bxf bxp)) ⟨g, q * 5 + 3, none⟩ (.slice bxG bxg bxq))).frozen? ⟨g, q * 5 + 4, none⟩ = false := by simp only [World.frozen?_setCell]; exact f4
      refine lateP_one (i := 15) rfl (by kernel_rfl) (fun K hK => ?_)
      go_simp
      refine hK.out _ _ (fun h => absurd h (by decide)) ?_
      clear hK K
      try simp only [pu]
      change anyP _ _ _ _ _ _ _ _ _ (setCells Wd g (q * 5) [.string bxn, .bool bxe, .slice bxF bxf bxp, .slice bxG bxg bxq, .slice bxI bxi bxr])
      refine ppP 16 ?_
      try simp only [pu]
      clear d0 c0 f0 d1 c1 f1 d2 c2 f2 d3 c3 f3 d4 c4 f4 k1 m1 k2 m2 k3 m3 k4 m4 hld
      generalize setCells Wd g (q * 5) [.string bxn, .bool bxe, .slice bxF bxf bxp, .slice bxG bxg bxq, .slice bxI bxi bxr] = We at *
      have k1 : ((World.setCell We ⟨g, p * 5, none⟩ (.string axn))).cell? ⟨g, p * 5 + 1, none⟩ = some u1 := by rw [cell_beside (by go_light; omega)]; exact p1
      have m1 : ((World.setCell We ⟨g, p * 5, none⟩ (.string axn))).frozen? ⟨g, p * 5 + 1, none⟩ = false := by simp only [World.frozen?_setCell]; exact g1
      have k2 : ((World.setCell (World.setCell We ⟨g, p * 5, none⟩ (.string axn)) ⟨g, p * 5 + 1, none⟩ (.bool axe))).cell? ⟨g, p * 5 + 2, none⟩ = some u2 := by rw [cell_beside (by go_light; omega), cell_beside (by go_light; omega)]; exact p2
      have m2 : ((World.setCell (World.setCell We ⟨g, p * 5, none⟩ (.string axn)) ⟨g, p * 5 + 1, none⟩ (.bool axe))).frozen? ⟨g, p * 5 + 2, none⟩ = false := by simp only [World.frozen?_setCell]; exact g2
      have k3 : ((World.setCell (World.setCell (World.setCell We ⟨g, p * 5, none⟩ (.string axn)) ⟨g, p * 5 + 1, none⟩ (.bool axe)) ⟨g, p * 5 + 2, none⟩ (.slice axF axf axp))).cell? ⟨g, p * 5 + 3, none⟩ = some u3 := by rw [cell_beside (by go_light; omega), cell_beside (by go_light; omega), cell_beside (by go_light; omega)]; exact p3
      have m3 : ((World.setCell (World.setCell (World.setCell We ⟨g, p * 5, none⟩ (.string axn)) ⟨g, p * 5 + 1, none⟩ (.bool axe)) ⟨g, p * 5 + 2, none⟩ (.slice axF axf axp))).frozen? ⟨g, p * 5 + 3, none⟩ = false := by simp only [World.frozen?_setCell]; exact g3
      have k4 : ((World.setCell (World.setCell (World.setCell (World.setCell We ⟨g, p * 5, none⟩ (.string axn)) ⟨g, p * 5 + 1, none⟩ (.bool axe)) ⟨g, p * 5 + 2, none⟩ (.slice axF axf axp)) ⟨g, p * 5 + 3, none⟩ (.slice axG axg axq))).cell? ⟨g, p * 5 + 4, none⟩ = some u4 := by rw [cell_beside (by go_light; omega), cell_beside (by go_light; omega), cell_beside (by go_light; omega), cell_beside (by go_light; omega)]; exact p4
      have m4 : ((World.setCell (World.setCell (World.setCell (World.setCell We ⟨g, p * 5, none⟩ (.string axn)) ⟨g, p * 5 + 1, none⟩ (.bool axe)) ⟨g, p * 5 + 2, none⟩ (.slice axF axf axp)) ⟨g, p * 5 + 3, none⟩ (.slice axG axg axq))).frozen? ⟨g, p * 5 + 4, none⟩ = false := by simp only [World.frozen?_setCell]; exact g4
      refine lateP_one (i := 17) rfl (by kernel_rfl) (fun K hK => ?_)
      go_simp
      refine hK.out _ _ (fun h => absurd h (by decide)) ?_
      clear hK K
      try simp only [pu]
      refine lateP_done (by kernel_rfl) ?_ _
      change Exit.inBlock _ _ _ _ (setCells We g (p * 5) [.string axn, .bool axe, .slice axF axf axp, .slice axG axg axq, .slice axI axi axr])
      have hGz := grown_via (grown_via hGd hGe (.inl rfl)) hGf (.inl rfl)
      clear p0 g0 p1 g1 p2 g2 p3 g3 p4 g4 k1 m1 k2 m2 k3 m3 k4 m4 hOd hOe hGd hGe hrAd hrBd hrAe hpz hle hl5
      generalize setCells We g (p * 5) [.string axn, .bool axe, .slice axF axf axp, .slice axG axg axq, .slice axI axi axr] = Wf at *
      simp only [List.length_set] at hOf
      rw [hzl] at hOf
      go_wp2_with fail
      go_roundw
      case rel => exact ⟨p, (zs.set q ⟨bxn, bxe, bxF, bxf, bxp, bxG, bxg, bxq, bxI, bxi, bxr⟩).set p ⟨axn, axe, axF, axf, axp, axG, axg, axq, axI, axi, axr⟩, rfl, Hpq.out.2.1, Hpq.out.2.2, by simp only [List.length_set]; exact hzl, HQs.out, hOf, hGz, HM2.out⟩
      case measure => go_light; have := Hp.out; simp [intOf]; omega
     ·have ec : decide (cv < 0) = false := by simpa using hc
      rw [ec] at hsg
      have HM2 := Lib.hid (fun h => HMe.out h hsg)
      clear hc hsg HMs HMe hS hrA5 hrB5
      rw [ec]
      clear ec
      have e7 : IntKind.i64.wrap ((m : Int) + 1) = (m : Int) + 1 := IntWalk.i64_in _ (by go_light; omega)
      go_wp2_with fail
      go_roundw
      case rel => exact ⟨m + 1, zs, by simp, by go_light; omega, hzl, HQz.out, hO5, hG5, HM2.out⟩
      case measure => go_light; simp [intOf]; omega
    ·--[EX
     have ej : decide ((q : Int) > a) = false := by simp; omega
     have ej2 : decide ((a : Int) < (q : Int)) = false := by simp; omega
     have HM2 := Lib.hid (fun h => mid_end Hmn.out (hM h) (fun h0 _ => absurd h0 (by omega)))
     have HQz := Lib.hid hQ
     have e7 : IntKind.i64.wrap ((m : Int) + 1) = (m : Int) + 1 := IntWalk.i64_in _ (by omega)
     have hO5 := hO.below RTypeC.fair (below_drew (Below.refl wr.heap.size wr))
     have hG5 := grown_via hG (grown_below (below_drew (Below.refl wr.heap.size wr)) (some g)) (.inl rfl)
     clear hM hQ hO hG
     have hS : True := trivial
     go_upto_region 4 with fail
     refine lateP_start (fun _ => True) (fun _ => true) (by kernel_rfl) ?_
     generalize wr.drew = Wd at hO5 hG5 ⊢
     refine ppP 0 ?_
     try simp only [pu]
     refine ppP 1 ?_
     try simp only [pu]
     refine ppP 2 ?_
     try simp only [pu]
     refine ppP 3 ?_
     try simp only [pu]
     refine skP 4 hS ?_
     try simp only [pu]
     refine skP 5 hS ?_
     try simp only [pu]
     refine skP 6 hS ?_
     try simp only [pu]
     refine skP 7 hS ?_
     try simp only [pu]
     refine skP 8 hS ?_
     try simp only [pu]
     refine skP 9 hS ?_
     try simp only [pu]
     refine skP 10 hS ?_
     try simp only [pu]
     refine skP 11 hS ?_
     try simp only [pu]
     refine skP 12 hS ?_
     try simp only [pu]
     refine skP 13 hS ?_
     try simp only [pu]
     refine skP 14 hS ?_
     try simp only [pu]
     refine skP 15 hS ?_
     try simp only [pu]
     refine ppP 16 ?_
     try simp only [pu]
     refine lateP_done (by kernel_rfl) ?_ _
     clear ej ej2
     go_wp2_with fail
     go_roundw
     case rel => exact ⟨m + 1, zs, by simp, by go_light; omega, hzl, HQz.out, hO5, hG5, HM2.out⟩
     case measure => go_light; simp [intOf]; omega
  ·--[OUT
   have HQz := Lib.hid hQ
   have Hx := Lib.hid hx
   have Hmb := Lib.hid (show b ≤ m by omega)
   clear hQ hx
   go_wp2_with fail
   refine bodyPost_end (results_none rfl _ _ _) rfl ?_
   refine ⟨rfl, ys, hl.trans Hnn.out, HQz.out, by rw [← Hnn.out]; exact hO, hG, fun h h2 => ?_⟩
   have := Hx.out h
   rw [List.take_of_length_le (by have := Hmb.out; omega), List.drop_eq_nil_of_le (by have := Hmb.out; omega), List.append_nil] at this
   exact this
end Go.Proofs.YtfobdbhmfohfnaaGreatDoor
