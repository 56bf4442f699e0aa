/- The walks of the sort of the reader's rows (Row): what is beyond twenty. -/
import Derived.Test.YtfobdbhmfohfnaaGreatDoorProg
import Derived.Test.YtfobdbhmfohfnaaGreatDoorBase
import Derived.Test.YtfobdbhmfohfnaaGreatDoorSortRow
import Derived.Test.YtfobdbhmfohfnaaGreatDoorLates
import Derived.Deep.DrawnRows
import Derived.Deep.Light
import Derived.Deep.DeepCutAuto
set_option linter.all false
set_option maxRecDepth 100000
set_option maxHeartbeats 8000000
namespace Go.Proofs.YtfobdbhmfohfnaaGreatDoor
open Go.RowKit
attribute [local go_sem ↓] Go.wp_at_zero Go.wp_at_succ
variable {L : List TypeC}
def WeakRow (base : Nat) (T : Nat → Prop) (g cap : Nat) (xs : List TypeC) (w : World) (e : Ending) (w' : World) : Prop :=
 e = .returned (.tuple #[]) ∧ ∃ ys, ys.length = xs.length ∧ (ys.Perm L) ∧ Own base 40 5 RTypeC T w' (Value.slice (some ⟨g, 0, none⟩) xs.length cap) ys ∧ w.grownBy w' (some g)
theorem swrRow_any (base : Nat) (T : Nat → Prop) (g cap : Nat) (xs : List TypeC) (w : World) (ho : Own base 40 5 RTypeC T w (Value.slice (some ⟨g, 0, none⟩) xs.length cap) xs) (hn : xs.length ≤ 1000000) (hq : xs.Perm L) (a b c : Nat) (ha : a + c ≤ xs.length) (hb : b + c ≤ xs.length) :
  Calls Tryz.prog 147 #[Value.slice (some ⟨g, 0, none⟩) xs.length cap, .int .i64 a, .int .i64 b, .int .i64 c, (Value.func (Fn.func 40) #[] #[])] w (WeakRow (L := L) base T g cap xs w) := by
 have HO := Lib.hid ho
 have HQ := Lib.hid hq
 obtain ⟨n, hnn⟩ : ∃ n, n = xs.length := ⟨_, rfl⟩
 rw [← hnn] at ha hb hn HO ⊢
 have Hnn := Lib.hid hnn
 clear ho hq hnn
 go_enter Tryz.func147, Tryz.ntmps147
 go_wp2_with fail
 go_loopw [10] (fun i wr => ∃ (k : Nat) (zs : List TypeC), i = .int .i64 k ∧ zs.length = n ∧ (zs.Perm L) ∧ Own base 40 5 RTypeC T wr (Value.slice (some ⟨g, 0, none⟩) n cap) zs ∧ w.grownBy wr (some g)) (fun i _ => c - (intOf i).toNat)
 case atStart => exact ⟨0, xs, rfl, Hnn.out.symm, HQ.out, HO.out, grown_below (Below.refl _ _) _⟩
 case round =>
  obtain ⟨k, zs, rfl, hzl, hQ, hO, hG⟩ := hrel
  by_cases hlt : k < c
  ·obtain ⟨q, hq⟩ : ∃ q, q = a + k := ⟨_, rfl⟩
   obtain ⟨p, hp⟩ : ∃ p, p = b + k := ⟨_, rfl⟩
   have hz1 : q < zs.length := by omega
   have hz0 : p < zs.length := by omega
   obtain ⟨ra, la⟩ := elemRow hO hz1
   obtain ⟨rb, lb⟩ := elemRow hO hz0
   have hc : (fun W' => (World.cell? W' ⟨g, q * 5, none⟩ = some (.string zs[q].name) ∧ World.cell? W' ⟨g, q * 5 + 1, none⟩ = some (.bool zs[q].enum) ∧ World.cell? W' ⟨g, q * 5 + 2, none⟩ = some (.slice zs[q].F zs[q].f zs[q].p) ∧ World.cell? W' ⟨g, q * 5 + 3, none⟩ = some (.slice zs[q].G zs[q].g zs[q].q) ∧ World.cell? W' ⟨g, q * 5 + 4, none⟩ = some (.slice zs[q].I zs[q].i zs[q].r)) ∧ (World.cell? W' ⟨g, p * 5, none⟩ = some (.string zs[p].name) ∧ World.cell? W' ⟨g, p * 5 + 1, none⟩ = some (.bool zs[p].enum) ∧ World.cell? W' ⟨g, p * 5 + 2, none⟩ = some (.slice zs[p].F zs[p].f zs[p].p) ∧ World.cell? W' ⟨g, p * 5 + 3, none⟩ = some (.slice zs[p].G zs[p].g zs[p].q) ∧ World.cell? W' ⟨g, p * 5 + 4, none⟩ = some (.slice zs[p].I zs[p].i zs[p].r))) wr := ⟨⟨(by have := la.at_ 0 rfl; simpa using this), la.at_ 1 rfl, la.at_ 2 rfl, la.at_ 3 rfl, la.at_ 4 rfl⟩, ⟨(by have := lb.at_ 0 rfl; simpa using this), lb.at_ 1 rfl, lb.at_ 2 rfl, lb.at_ 3 rfl, lb.at_ 4 rfl⟩⟩
   have qA : QRow zs[q] := trivial
   have qB : QRow zs[p] := trivial
   have HQs := Lib.hid (swap_perm hz1 hz0 hQ)
   have HQz := Lib.hid hQ
   have hOs := fun (W' : World) (hO' : Own base 40 5 RTypeC T W' (Value.slice (some ⟨g, 0, none⟩) zs.length cap) zs) (hr : RTypeC T W' [.string zs[p].name, .bool zs[p].enum, .slice zs[p].F zs[p].f zs[p].p, .slice zs[p].G zs[p].g zs[p].q, .slice zs[p].I zs[p].i zs[p].r] zs[p]) => hO'.store RTypeC.fair hz1 (cs := [.string zs[p].name, .bool zs[p].enum, .slice zs[p].F zs[p].f zs[p].p, .slice zs[p].G zs[p].g zs[p].q, .slice zs[p].I zs[p].i zs[p].r]) (x := zs[p]) rfl hr
   have hOt := fun (W' : World) (hO' : Own base 40 5 RTypeC T W' (Value.slice (some ⟨g, 0, none⟩) (zs.set q zs[p]).length cap) (zs.set q zs[p])) (hr : RTypeC T W' [.string zs[q].name, .bool zs[q].enum, .slice zs[q].F zs[q].f zs[q].p, .slice zs[q].G zs[q].g zs[q].q, .slice zs[q].I zs[q].i zs[q].r] zs[q]) => hO'.store RTypeC.fair (i := p) (by rw [List.length_set]; exact hz0) (cs := [.string zs[q].name, .bool zs[q].enum, .slice zs[q].F zs[q].f zs[q].p, .slice zs[q].G zs[q].g zs[q].q, .slice zs[q].I zs[q].i zs[q].r]) (x := zs[q]) rfl hr
   have hnT : ¬ T g := own_not hO
   have hlr := own_lt hO
   clear la lb
   obtain ⟨A, hA⟩ : ∃ A, A = zs[q] := ⟨_, rfl⟩
   obtain ⟨B, hB⟩ : ∃ B, B = zs[p] := ⟨_, rfl⟩
   rw [← hA] at hc ra qA HQs hOt
   rw [← hB] at hc rb qB HQs hOs hOt
   obtain ⟨axn, axe, axF, axf, axp, axG, axg, axq, axI, axi, axr⟩ := A
   obtain ⟨bxn, bxe, bxF, bxf, bxp, bxG, bxg, bxq, bxI, bxi, bxr⟩ := B
   dsimp only at hc ra rb hOs hOt
   have Hra := Lib.hid ra
   have Hrb := Lib.hid rb
   have HOs := Lib.hid hOs
   have HOt := Lib.hid hOt
   have HnT := Lib.hid hnT
   have HqA := Lib.hid qA
   have HqB := Lib.hid qB
   clear hQ qA qB hA hB hOs hOt ra rb hnT
   have e1 : IntKind.i64.wrap ((a : Int) + k) = (q : Int) := by rw [show (a : Int) + k = (q : Int) by omega]; exact IntWalk.i64_in _ (by omega)
   have e2 : IntKind.i64.wrap ((b : Int) + k) = (p : Int) := by rw [show (b : Int) + k = (p : Int) by omega]; exact IntWalk.i64_in _ (by omega)
   have hq1n : (q : Int) < n := by omega
   have hq0n : (p : Int) < n := by omega
   have e7 : IntKind.i64.wrap ((k : Int) + 1) = (k : Int) + 1 := IntWalk.i64_in _ (by omega)
   clear hq hp
   go_upto_region 3 with fail
   obtain ⟨w5, hw5⟩ : ∃ W, W = wr := ⟨_, rfl⟩
   subst hw5
   have hS : (fun W' => (World.cell? W' ⟨g, q * 5, none⟩ = some (.string axn) ∧ World.cell? W' ⟨g, q * 5 + 1, none⟩ = some (.bool axe) ∧ World.cell? W' ⟨g, q * 5 + 2, none⟩ = some (.slice axF axf axp) ∧ World.cell? W' ⟨g, q * 5 + 3, none⟩ = some (.slice axG axg axq) ∧ World.cell? W' ⟨g, q * 5 + 4, none⟩ = some (.slice axI axi axr)) ∧ (World.cell? W' ⟨g, p * 5, none⟩ = some (.string bxn) ∧ World.cell? W' ⟨g, p * 5 + 1, none⟩ = some (.bool bxe) ∧ World.cell? W' ⟨g, p * 5 + 2, none⟩ = some (.slice bxF bxf bxp) ∧ World.cell? W' ⟨g, p * 5 + 3, none⟩ = some (.slice bxG bxg bxq) ∧ World.cell? W' ⟨g, p * 5 + 4, none⟩ = some (.slice bxI bxi bxr))) w5 := hc
   have hO5 := hO
   have hG5 := hG
   have hrA5 := Hra.out
   have hrB5 := Hrb.out
   have hld : g < w5.heap.size := hlr
   clear hO hG hc hlr
   have hOd : Own base 40 5 RTypeC T w5.drew (Value.slice (some ⟨g, 0, none⟩) n cap) zs := hO5.below RTypeC.fair (below_drew (Below.refl w5.heap.size w5))
   have hGd := grown_via hG5 (grown_below (below_drew (Below.refl w5.heap.size w5)) (some g)) (.inl rfl)
   have hrAd := RTypeC.fair.below hrA5 (below_drew (Below.refl w5.heap.size w5))
   have hrBd := RTypeC.fair.below hrB5 (below_drew (Below.refl w5.heap.size w5))
   replace hS : (fun W' => (World.cell? W' ⟨g, q * 5, none⟩ = some (.string axn) ∧ World.cell? W' ⟨g, q * 5 + 1, none⟩ = some (.bool axe) ∧ World.cell? W' ⟨g, q * 5 + 2, none⟩ = some (.slice axF axf axp) ∧ World.cell? W' ⟨g, q * 5 + 3, none⟩ = some (.slice axG axg axq) ∧ World.cell? W' ⟨g, q * 5 + 4, none⟩ = some (.slice axI axi axr)) ∧ (World.cell? W' ⟨g, p * 5, none⟩ = some (.string bxn) ∧ World.cell? W' ⟨g, p * 5 + 1, none⟩ = some (.bool bxe) ∧ World.cell? W' ⟨g, p * 5 + 2, none⟩ = some (.slice bxF bxf bxp) ∧ World.cell? W' ⟨g, p * 5 + 3, none⟩ = some (.slice bxG bxg bxq) ∧ World.cell? W' ⟨g, p * 5 + 4, none⟩ = some (.slice bxI bxi bxr))) w5.drew := hS
   replace hld : g < w5.drew.heap.size := hld
   refine lateP_start (fun W' => (World.cell? W' ⟨g, q * 5, none⟩ = some (.string axn) ∧ World.cell? W' ⟨g, q * 5 + 1, none⟩ = some (.bool axe) ∧ World.cell? W' ⟨g, q * 5 + 2, none⟩ = some (.slice axF axf axp) ∧ World.cell? W' ⟨g, q * 5 + 3, none⟩ = some (.slice axG axg axq) ∧ World.cell? W' ⟨g, q * 5 + 4, none⟩ = some (.slice axI axi axr)) ∧ (World.cell? W' ⟨g, p * 5, none⟩ = some (.string bxn) ∧ World.cell? W' ⟨g, p * 5 + 1, none⟩ = some (.bool bxe) ∧ World.cell? W' ⟨g, p * 5 + 2, none⟩ = some (.slice bxF bxf bxp) ∧ World.cell? W' ⟨g, p * 5 + 3, none⟩ = some (.slice bxG bxg bxq) ∧ World.cell? W' ⟨g, p * 5 + 4, none⟩ = some (.slice bxI bxi bxr))) (fun i => i != 21 && i != 23) (by kernel_rfl) ?_
   generalize w5.drew = Wd at hOd hGd hS hld hrAd hrBd ⊢
   clear hO5 hG5 hrA5 hrB5
   refine ppP 0 ?_
   try simp only [pu]
   refine ppP 1 ?_
   try simp only [pu]
   refine ppP 2 ?_
   try simp only [pu]
   refine ppP 3 ?_
   try simp only [pu]
   refine ppP 4 ?_
   try simp only [pu]
   refine ppP 5 ?_
   try simp only [pu]
   refine ppP 6 ?_
   try simp only [pu]
   refine ppP 7 ?_
   try simp only [pu]
   refine ppP 8 ?_
   try simp only [pu]
   refine ppP 9 ?_
   try simp only [pu]
   refine ppP 10 ?_
   try simp only [pu]
   refine ppP 11 ?_
   try simp only [pu]
   refine ppP 12 ?_
   try simp only [pu]
   refine tkP 13 hS ?_
   try simp only [pu]
   refine ppP 14 ?_
   try simp only [pu]
   refine ppP 15 ?_
   try simp only [pu]
   refine ppP 16 ?_
   try simp only [pu]
   refine ppP 17 ?_
   try simp only [pu]
   refine ppP 18 ?_
   try simp only [pu]
   refine tkP 19 hS ?_
   try simp only [pu]
   refine ppP 20 ?_
   try simp only [pu]
   obtain ⟨⟨d0, d1, d2, d3, d4⟩, ⟨c0, c1, c2, c3, c4⟩⟩ := hS
   rw [← hzl] at hOd
   obtain ⟨hOe, hGe⟩ := HOs.out _ hOd hrBd
   have hrAe := RTypeC.fair.keep hrAd (Keep.of_grown hGe (fun k e => by injection e with e; rw [← e]; exact HnT.out))
   obtain ⟨hOf, hGf⟩ := HOt.out _ (by rw [List.length_set]; exact hOe) hrAe
   have hpz : p < (zs.set q ⟨bxn, bxe, bxF, bxf, bxp, bxG, bxg, bxq, bxI, bxi, bxr⟩).length := by rw [List.length_set]; exact hz0
   have f0 := hOd.frozen (q * 5)
   have g0 := hOe.frozen (p * 5)
   have f1 := hOd.frozen (q * 5 + 1)
   have g1 := hOe.frozen (p * 5 + 1)
   have f2 := hOd.frozen (q * 5 + 2)
   have g2 := hOe.frozen (p * 5 + 2)
   have f3 := hOd.frozen (q * 5 + 3)
   have g3 := hOe.frozen (p * 5 + 3)
   have f4 := hOd.frozen (q * 5 + 4)
   have g4 := hOe.frozen (p * 5 + 4)
   obtain ⟨cs5, hl5, -, ly⟩ := hOe.cells hpz
   have hle := own_lt hOe
   have p0 : ∃ u, World.cell? (setCells Wd g (q * 5) [.string bxn, .bool bxe, .slice bxF bxf bxp, .slice bxG bxg bxq, .slice bxI bxi bxr]) ⟨g, p * 5, none⟩ = some u := ⟨_, (by have := ly.at_ 0 (List.getElem?_eq_getElem (by omega)); rwa [Nat.add_zero] at this)⟩
   have p1 : ∃ u, World.cell? (setCells Wd g (q * 5) [.string bxn, .bool bxe, .slice bxF bxf bxp, .slice bxG bxg bxq, .slice bxI bxi bxr]) ⟨g, p * 5 + 1, none⟩ = some u := ⟨_, ly.at_ 1 (List.getElem?_eq_getElem (by omega))⟩
   have p2 : ∃ u, World.cell? (setCells Wd g (q * 5) [.string bxn, .bool bxe, .slice bxF bxf bxp, .slice bxG bxg bxq, .slice bxI bxi bxr]) ⟨g, p * 5 + 2, none⟩ = some u := ⟨_, ly.at_ 2 (List.getElem?_eq_getElem (by omega))⟩
   have p3 : ∃ u, World.cell? (setCells Wd g (q * 5) [.string bxn, .bool bxe, .slice bxF bxf bxp, .slice bxG bxg bxq, .slice bxI bxi bxr]) ⟨g, p * 5 + 3, none⟩ = some u := ⟨_, ly.at_ 3 (List.getElem?_eq_getElem (by omega))⟩
   have p4 : ∃ u, World.cell? (setCells Wd g (q * 5) [.string bxn, .bool bxe, .slice bxF bxf bxp, .slice bxG bxg bxq, .slice bxI bxi bxr]) ⟨g, p * 5 + 4, none⟩ = some u := ⟨_, ly.at_ 4 (List.getElem?_eq_getElem (by omega))⟩
   obtain ⟨u0, p0⟩ := p0
   obtain ⟨u1, p1⟩ := p1
   obtain ⟨u2, p2⟩ := p2
   obtain ⟨u3, p3⟩ := p3
   obtain ⟨u4, p4⟩ := p4
   clear ly
   have k1 : ((World.setCell Wd ⟨g, q * 5, none⟩ (.string bxn))).cell? ⟨g, q * 5 + 1, none⟩ = some (.bool axe) := by rw [cell_beside (by go_light; omega)]; exact d1
   have m1 : ((World.setCell Wd ⟨g, q * 5, none⟩ (.string bxn))).frozen? ⟨g, q * 5 + 1, none⟩ = false := by simp only [World.frozen?_setCell]; exact f1
   have k2 : ((World.setCell (World.setCell Wd ⟨g, q * 5, none⟩ (.string bxn)) ⟨g, q * 5 + 1, none⟩ (.bool bxe))).cell? ⟨g, q * 5 + 2, none⟩ = some (.slice axF axf axp) := by rw [cell_beside (by go_light; omega), cell_beside (by go_light; omega)]; exact d2
   have m2 : ((World.setCell (World.setCell Wd ⟨g, q * 5, none⟩ (.string bxn)) ⟨g, q * 5 + 1, none⟩ (.bool bxe))).frozen? ⟨g, q * 5 + 2, none⟩ = false := by simp only [World.frozen?_setCell]; exact f2
   have k3 : ((World.setCell (World.setCell (World.setCell Wd ⟨g, q * 5, none⟩ (.string bxn)) ⟨g, q * 5 + 1, none⟩ (.bool bxe)) ⟨g, q * 5 + 2, none⟩ (.slice bxF bxf bxp))).cell? ⟨g, q * 5 + 3, none⟩ = some (.slice axG axg axq) := by rw [cell_beside (by go_light; omega), cell_beside (by go_light; omega), cell_beside (by go_light; omega)]; exact d3
   have m3 : ((World.setCell (World.setCell (World.setCell Wd ⟨g, q * 5, none⟩ (.string bxn)) ⟨g, q * 5 + 1, none⟩ (.bool bxe)) ⟨g, q * 5 + 2, none⟩ (.slice bxF bxf bxp))).frozen? ⟨g, q * 5 + 3, none⟩ = false := by simp only [World.frozen?_setCell]; exact f3
   have k4 : ((World.setCell (World.setCell (World.setCell (World.setCell Wd ⟨g, q * 5, none⟩ (.string bxn)) ⟨g, q * 5 + 1, none⟩ (.bool bxe)) ⟨g, q * 5 + 2, none⟩ (.slice bxF bxf bxp)) ⟨g, q * 5 + 3, none⟩ (.slice bxG bxg bxq))).cell? ⟨g, q * 5 + 4, none⟩ = some (.slice axI axi axr) := by rw [cell_beside (by go_light; omega), cell_beside (by go_light; omega), cell_beside (by go_light; omega), cell_beside (by go_light; omega)]; exact d4
   have m4 : ((World.setCell (World.setCell (World.setCell (World.setCell Wd ⟨g, q * 5, none⟩ (.string bxn)) ⟨g, q * 5 + 1, none⟩ (.bool bxe)) ⟨g, q * 5 + 2, none⟩ (.slice bxF bxf bxp)) ⟨g, q * 5 + 3, none⟩ (.slice bxG bxg bxq))).frozen? ⟨g, q * 5 + 4, none⟩ = false := by simp only [World.frozen?_setCell]; exact f4
   refine lateP_one (i := 21) rfl (by kernel_rfl) (fun K hK => ?_)
   go_simp
   refine hK.out _ _ (fun h => absurd h (by decide)) ?_
   clear hK K
   try simp only [pu]
   change anyP _ _ _ _ _ _ _ _ _ (setCells Wd g (q * 5) [.string bxn, .bool bxe, .slice bxF bxf bxp, .slice bxG bxg bxq, .slice bxI bxi bxr])
   refine ppP 22 ?_
   try simp only [pu]
   clear d0 c0 f0 d1 c1 f1 d2 c2 f2 d3 c3 f3 d4 c4 f4 k1 m1 k2 m2 k3 m3 k4 m4 hld
   generalize setCells Wd g (q * 5) [.string bxn, .bool bxe, .slice bxF bxf bxp, .slice bxG bxg bxq, .slice bxI bxi bxr] = We at *
   have k1 : ((World.setCell We ⟨g, p * 5, none⟩ (.string axn))).cell? ⟨g, p * 5 + 1, none⟩ = some u1 := by rw [cell_beside (by go_light; omega)]; exact p1
   have m1 : ((World.setCell We ⟨g, p * 5, none⟩ (.string axn))).frozen? ⟨g, p * 5 + 1, none⟩ = false := by simp only [World.frozen?_setCell]; exact g1
   have k2 : ((World.setCell (World.setCell We ⟨g, p * 5, none⟩ (.string axn)) ⟨g, p * 5 + 1, none⟩ (.bool axe))).cell? ⟨g, p * 5 + 2, none⟩ = some u2 := by rw [cell_beside (by go_light; omega), cell_beside (by go_light; omega)]; exact p2
   have m2 : ((World.setCell (World.setCell We ⟨g, p * 5, none⟩ (.string axn)) ⟨g, p * 5 + 1, none⟩ (.bool axe))).frozen? ⟨g, p * 5 + 2, none⟩ = false := by simp only [World.frozen?_setCell]; exact g2
   have k3 : ((World.setCell (World.setCell (World.setCell We ⟨g, p * 5, none⟩ (.string axn)) ⟨g, p * 5 + 1, none⟩ (.bool axe)) ⟨g, p * 5 + 2, none⟩ (.slice axF axf axp))).cell? ⟨g, p * 5 + 3, none⟩ = some u3 := by rw [cell_beside (by go_light; omega), cell_beside (by go_light; omega), cell_beside (by go_light; omega)]; exact p3
   have m3 : ((World.setCell (World.setCell (World.setCell We ⟨g, p * 5, none⟩ (.string axn)) ⟨g, p * 5 + 1, none⟩ (.bool axe)) ⟨g, p * 5 + 2, none⟩ (.slice axF axf axp))).frozen? ⟨g, p * 5 + 3, none⟩ = false := by simp only [World.frozen?_setCell]; exact g3
   have k4 : ((World.setCell (World.setCell (World.setCell (World.setCell We ⟨g, p * 5, none⟩ (.string axn)) ⟨g, p * 5 + 1, none⟩ (.bool axe)) ⟨g, p * 5 + 2, none⟩ (.slice axF axf axp)) ⟨g, p * 5 + 3, none⟩ (.slice axG axg axq))).cell? ⟨g, p * 5 + 4, none⟩ = some u4 := by rw [cell_beside (by go_light; omega), cell_beside (by go_light; omega), cell_beside (by go_light; omega), cell_beside (by go_light; omega)]; exact p4
   have m4 : ((World.setCell (World.setCell (World.setCell (World.setCell We ⟨g, p * 5, none⟩ (.string axn)) ⟨g, p * 5 + 1, none⟩ (.bool axe)) ⟨g, p * 5 + 2, none⟩ (.slice axF axf axp)) ⟨g, p * 5 + 3, none⟩ (.slice axG axg axq))).frozen? ⟨g, p * 5 + 4, none⟩ = false := by simp only [World.frozen?_setCell]; exact g4
   refine lateP_one (i := 23) rfl (by kernel_rfl) (fun K hK => ?_)
   go_simp
   refine hK.out _ _ (fun h => absurd h (by decide)) ?_
   clear hK K
   try simp only [pu]
   refine lateP_done (by kernel_rfl) ?_ _
   change Exit.inBlock _ _ _ _ (setCells We g (p * 5) [.string axn, .bool axe, .slice axF axf axp, .slice axG axg axq, .slice axI axi axr])
   have hGz := grown_via (grown_via hGd hGe (.inl rfl)) hGf (.inl rfl)
   clear p0 g0 p1 g1 p2 g2 p3 g3 p4 g4 k1 m1 k2 m2 k3 m3 k4 m4 hOd hOe hGd hGe hrAd hrBd hrAe hpz hle hl5
   generalize setCells We g (p * 5) [.string axn, .bool axe, .slice axF axf axp, .slice axG axg axq, .slice axI axi axr] = Wf at *
   simp only [List.length_set] at hOf
   rw [hzl] at hOf
   go_wp2_with fail
   go_roundw
   case rel => exact ⟨k + 1, (zs.set q ⟨bxn, bxe, bxF, bxf, bxp, bxG, bxg, bxq, bxI, bxi, bxr⟩).set p ⟨axn, axe, axF, axf, axp, axG, axg, axq, axI, axi, axr⟩, by simp, by simp only [List.length_set]; exact hzl, HQs.out, hOf, hGz⟩
   case measure => go_light; simp [intOf]; omega
  ·have HQz := Lib.hid hQ
   clear hQ
   go_wp2_with fail
   refine bodyPost_end (results_none rfl _ _ _) rfl ?_
   exact ⟨rfl, zs, hzl.trans Hnn.out, HQz.out, by rw [← Hnn.out]; exact hO, hG⟩
theorem rotRow_any (base : Nat) (T : Nat → Prop) (g cap : Nat) (xs : List TypeC) (w : World) (ho : Own base 40 5 RTypeC T w (Value.slice (some ⟨g, 0, none⟩) xs.length cap) xs) (hn : xs.length ≤ 1000000) (hq : xs.Perm L) (a m b : Nat) (ham : a < m) (hmb : m < b) (hb : b ≤ xs.length) :
  Calls Tryz.prog 121 #[Value.slice (some ⟨g, 0, none⟩) xs.length cap, .int .i64 a, .int .i64 m, .int .i64 b, (Value.func (Fn.func 40) #[] #[])] w (WeakRow (L := L) base T g cap xs w) := by
 have HO := Lib.hid ho
 have HQ := Lib.hid hq
 obtain ⟨n, hnn⟩ : ∃ n, n = xs.length := ⟨_, rfl⟩
 have hcall := fun (zs : List TypeC) (W : World) (hl : zs.length = xs.length) (hO : Own base 40 5 RTypeC T W (Value.slice (some ⟨g, 0, none⟩) zs.length cap) zs) (hQ : zs.Perm L) (a b c : Nat) (h1 : a + c ≤ zs.length) (h2 : b + c ≤ zs.length) => swrRow_any base T g cap zs W hO (by omega) hQ a b c h1 h2
 have Hcall := Lib.hid hcall
 rw [← hnn] at hb hn HO Hcall ⊢
 have Hnn := Lib.hid hnn
 have e1 : IntKind.i64.wrap ((m : Int) - a) = ((m - a : Nat) : Int) := by rw [show (m : Int) - a = ((m - a : Nat) : Int) by omega]; exact IntWalk.i64_in _ (by omega)
 have e2 : IntKind.i64.wrap ((b : Int) - m) = ((b - m : Nat) : Int) := by rw [show (b : Int) - m = ((b - m : Nat) : Int) by omega]; exact IntWalk.i64_in _ (by omega)
 obtain ⟨i0, hi0⟩ : ∃ i, i = m - a := ⟨_, rfl⟩
 obtain ⟨j0, hj0⟩ : ∃ j, j = b - m := ⟨_, rfl⟩
 rw [← hi0] at e1
 rw [← hj0] at e2
 have Hb0 := Lib.hid (show 0 < i0 ∧ i0 ≤ m ∧ 0 < j0 ∧ m + j0 ≤ n by omega)
 clear ho hq hnn hcall hi0 hj0 ham hmb hb
 go_enter Tryz.func121, Tryz.ntmps121
 go_wp2_with fail
 clear e1 e2
 go_loopw [10, 11] (fun c10 c11 wr => ∃ (i j : Nat) (zs : List TypeC), c10 = .int .i64 i ∧ c11 = .int .i64 j ∧ 0 < i ∧ i ≤ m ∧ 0 < j ∧ m + j ≤ n ∧ zs.length = n ∧ (zs.Perm L) ∧ Own base 40 5 RTypeC T wr (Value.slice (some ⟨g, 0, none⟩) n cap) zs ∧ w.grownBy wr (some g)) (fun c10 c11 _ => (intOf c10).toNat + (intOf c11).toNat)
 case atStart => exact ⟨i0, j0, xs, rfl, rfl, Hb0.out.1, Hb0.out.2.1, Hb0.out.2.2.1, Hb0.out.2.2.2, Hnn.out.symm, HQ.out, HO.out, grown_below (Below.refl _ _) _⟩
 case round =>
  obtain ⟨i, j, zs, rfl, rfl, hi0, him, hj0, hjn, hzl, hQ, hO, hG⟩ := hrel
  have HQz := Lib.hid hQ
  have hO' : Own base 40 5 RTypeC T wr (Value.slice (some ⟨g, 0, none⟩) zs.length cap) zs := by rw [hzl]; exact hO
  have hd1 : IntKind.i64.wrap ((m : Int) - i) = ((m - i : Nat) : Int) := by rw [show (m : Int) - i = ((m - i : Nat) : Int) by omega]; exact IntWalk.i64_in _ (by omega)
  clear hQ
  by_cases hne : i = j
  ·subst hne
   have hc := Lib.hid (Hcall.out zs wr hzl hO' HQz.out (m - i) m i (by omega) (by omega))
   rw [hzl] at hc
   obtain ⟨mi, hmi⟩ : ∃ x, x = m - i := ⟨_, rfl⟩
   rw [← hmi] at hd1 hc
   clear hmi hO hO'
   go_wp2_with fail
   refine hc.out.mono ?_
   rintro e w5 ⟨rfl, ys, hyl, hyQ, hyO, hyG⟩
   go_wp2_with fail
   refine bodyPost_end (results_none rfl _ _ _) rfl ?_
   exact ⟨rfl, ys, hyl.trans (hzl.trans Hnn.out), hyQ, by rw [← Hnn.out, ← hzl]; exact hyO, grown_via hG hyG (.inl rfl)⟩
  ·have hne' : ((i : Int) != (j : Int)) = true := by simp; omega
   by_cases hij : j < i
   ·have hc := Lib.hid (Hcall.out zs wr hzl hO' HQz.out (m - i) m j (by omega) (by omega))
    rw [hzl] at hc
    obtain ⟨mi, hmi⟩ : ∃ x, x = m - i := ⟨_, rfl⟩
    rw [← hmi] at hd1 hc
    have hd2 : IntKind.i64.wrap ((i : Int) - j) = ((i - j : Nat) : Int) := by rw [show (i : Int) - j = ((i - j : Nat) : Int) by omega]; exact IntWalk.i64_in _ (by omega)
    have hij' : (j : Int) < i := by omega
    have hne2 : ¬ (i : Int) = j := by omega
    clear hmi hO hO'
    go_wp2_with fail
    refine hc.out.mono ?_
    rintro e w5 ⟨rfl, ys, hyl, hyQ, hyO, hyG⟩
    have HyQ := Lib.hid hyQ
    have hyG' := grown_via hG hyG (.inl rfl)
    rw [hzl] at hyO
    clear hyQ hyG hG
    go_wp2_with fail
    go_roundw
    case rel => exact ⟨i - j, j, ys, rfl, rfl, by go_light; omega, by go_light; omega, hj0, hjn, hyl.trans hzl, HyQ.out, hyO, hyG'⟩
    case measure => go_light; simp [intOf]; omega
   ·have hc := Lib.hid (Hcall.out zs wr hzl hO' HQz.out (m - i) (m + j - i) i (by omega) (by omega))
    rw [hzl] at hc
    obtain ⟨mi, hmi⟩ : ∃ x, x = m - i := ⟨_, rfl⟩
    rw [← hmi] at hd1 hc
    have hd3 : IntKind.i64.wrap ((m : Int) + j) = (m : Int) + j := IntWalk.i64_in _ (by omega)
    have hd4 : IntKind.i64.wrap ((m : Int) + j - i) = ((m + j - i : Nat) : Int) := by rw [show (m : Int) + j - i = ((m + j - i : Nat) : Int) by omega]; exact IntWalk.i64_in _ (by omega)
    obtain ⟨mj, hmj⟩ : ∃ x, x = m + j - i := ⟨_, rfl⟩
    rw [← hmj] at hd4 hc
    have hd2 : IntKind.i64.wrap ((j : Int) - i) = ((j - i : Nat) : Int) := by rw [show (j : Int) - i = ((j - i : Nat) : Int) by omega]; exact IntWalk.i64_in _ (by omega)
    have hij' : ¬ (j : Int) < i := by omega
    have hne2 : ¬ (i : Int) = j := by omega
    clear hmi hmj hO hO'
    go_wp2_with fail
    refine hc.out.mono ?_
    rintro e w5 ⟨rfl, ys, hyl, hyQ, hyO, hyG⟩
    have HyQ := Lib.hid hyQ
    have hyG' := grown_via hG hyG (.inl rfl)
    rw [hzl] at hyO
    clear hyQ hyG hG
    go_wp2_with fail
    go_roundw
    case rel => exact ⟨i, j - i, ys, rfl, rfl, hi0, him, by go_light; omega, by go_light; omega, hyl.trans hzl, HyQ.out, hyO, hyG'⟩
    case measure => go_light; simp [intOf]; omega
end Go.Proofs.YtfobdbhmfohfnaaGreatDoor
