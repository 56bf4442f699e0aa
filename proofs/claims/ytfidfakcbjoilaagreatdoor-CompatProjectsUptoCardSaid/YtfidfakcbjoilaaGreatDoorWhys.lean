/- The walk of compat.whys. -/
import Derived.Test.YtfidfakcbjoilaaGreatDoorLacks
import Derived.Test.YtfidfakcbjoilaaGreatDoorSortInts
set_option linter.all false
set_option maxRecDepth 100000
set_option maxHeartbeats 8000000
namespace Go.Proofs.YtfidfakcbjoilaaGreatDoor
open Go.RowKit
def WhysPost (w : World) (l : List Int) (e : Ending) (w' : World) : Prop := ∃ v, e = .returned v ∧ RSl 1 8 RInt (New w) w' [v] l ∧ Below w.heap.size w w'
theorem whyA_le (w r : BookD) (f g : FieldD) : (whyA w r f g).length ≤ 1 := by
 unfold whyA
 split
 ·simp
 ·split <;> simp
theorem whys_any (S : Nat → Prop) (vw vr : Value) (bw br : BookD) (fi fk fr gi gk gr : Int) (fn ft gn gt : ByteArray) (w : World) (hb1 : RSl 5 96 RType S w [vw] bw) (hb2 : RSl 5 96 RType S w [vr] br) :
  Calls Tryz.prog 19 #[.agg #[vw], .agg #[vr], .agg #[.int .i64 fi, .string fn, .string ft, .int .i64 fk, .int .i64 fr], .agg #[.int .i64 gi, .string gn, .string gt, .int .i64 gk, .int .i64 gr]] w (WhysPost w (whysF bw br ⟨fi, fn, ft, fk, fr⟩ ⟨gi, gn, gt, gk, gr⟩)) := by
 obtain ⟨AW, cw, rfl, -, -⟩ := hb1.form
 obtain ⟨AR, cr, rfl, -, -⟩ := hb2.form
 obtain ⟨x1, x2, x3, x4, x5⟩ := boxes4 w [.slice AW bw.length cw] [.slice AR br.length cr] [.int .i64 fi, .string fn, .string ft, .int .i64 fk, .int .i64 fr] [.int .i64 gi, .string gn, .string gt, .int .i64 gk, .int .i64 gr] 24 24 55 55
 have hlk := Lib.hid (fun W (h : Below w.heap.size w W) => lacks_any (Old w) _ _ bw br fi fk fr gi gk gr fn ft gn gt W ((RSl.fair RType.fair).below ((RSl.fair RType.fair).old hb1) h) ((RSl.fair RType.fair).below ((RSl.fair RType.fair).old hb2) h))
 obtain ⟨lk, hlke⟩ : ∃ lk, lk = lacksF bw br ⟨fi, fn, ft, fk, fr⟩ ⟨gi, gn, gt, gk, gr⟩ := ⟨_, rfl⟩
 obtain ⟨p, hp⟩ : ∃ p, p = whysF bw br ⟨fi, fn, ft, fk, fr⟩ ⟨gi, gn, gt, gk, gr⟩ := ⟨_, rfl⟩
 obtain ⟨q, hq⟩ : ∃ q, q = whyA bw br ⟨fi, fn, ft, fk, fr⟩ ⟨gi, gn, gt, gk, gr⟩ := ⟨_, rfl⟩
 have hql : q.length ≤ 1 := by rw [hq]; exact whyA_le _ _ _ _
 have Hp : Hid (p = sortS (fun a b => decide (a < b)) (q ++ if fr = 3 ∧ gr ≠ 3 then [2] else [])) := by show _ = _; rw [hp, hq]; rfl
 have Hq : Hid (q = if kindOf fk ≠ kindOf gk then [1] else if kindOf fk = 0 ∧ lk.isSome = true then [3] else []) := by show _ = _; rw [hq, hlke]; rfl
 rw [← hp]
 rw [← hlke] at hlk
 have z3 : World.cell? _ _ = some (.int .i64 fk) := x3.cell 3
 have z4 : World.cell? _ _ = some (.int .i64 gk) := x4.cell 3
 have l3 := x3.lt
 have l4 := x4.lt
 clear hb1 hb2 hp hq hlke
 go_enter Tryz.func19, Tryz.ntmps19
 go_upto_region 2 with fail
 generalize (World.alloc _ (Obj.cells [.int .i64 gi, .string gn, .string gt, .int .i64 gk, .int .i64 gr].toArray 55)) = V at x1 x2 x3 x4 x5 z3 z4 l3 l4 ⊢
 have hkq1 := fun n => kind_quiet fk V n
 have hkq2 := fun n => kind_quiet gk V n
 obtain ⟨k1, hk1⟩ : ∃ k, k = kindOf fk := ⟨_, rfl⟩
 obtain ⟨k2, hk2⟩ : ∃ k, k = kindOf gk := ⟨_, rfl⟩
 have HK3 := Lib.hid (fun W => kind_any fk W)
 rw [← hk1] at hkq1 HK3
 rw [← hk2] at hkq2
 rw [← hk1, ← hk2] at Hq
 have HK1 := Lib.hid hkq1
 have HK2 := Lib.hid hkq2
 clear hkq1 hkq2 hk1 hk2
 go_quiet ((go_at_call 39; first | exact HK1.out _ | exact HK2.out _))
 go_upto_if 18 with fail
 obtain ⟨nb, hnb⟩ : ∃ nb, nb = (k1 != k2) := ⟨_, rfl⟩
 rw [← hnb]
 have hd := below_drewN (Below.here V) nq
 have y1 := x1.below hd x1.lt
 have y2 := x2.below hd x2.lt
 have y3 := x3.below hd x3.lt
 have y4 := x4.below hd x4.lt
 have hG := below_via x5 hd x5.size
 clear x1 x2 x3 x4 x5 hd z3 z4 l3 l4 HK1 HK2
 generalize (V.drewN nq) = W0 at y1 y2 y3 y4 hG ⊢
 go_cut [9, 10, 11] from 19 to 37 (fun c _ _ W1 => Own W0.heap.size 3 1 RInt NoT W1 c q ∧ Below W0.heap.size W0 W1)
 case first =>
  have hO := (Own.nil_ W0.heap.size 3 1 RInt NoT W0)
  have hB := Below.here W0
  cases nb with
  | true =>
   have hq1 : q = [1] := by rw [Hq.out, if_pos]; intro h; rw [h] at hnb; simp at hnb
   clear hnb Hp
   go_wp2_with (at_builtin; go_must (refine wl_append _ rfl (.tmp 19) (.tmp 20) rfl sl_intsC RInt.fair rfl rfl (hO.alloc RInt.fair _) (Src.one (es := [.int .i64 1]) (y := (1 : Int)) rfl (Ones.of_all rfl) rfl (Lies.newAt (by first | rfl | simp [World.setCell]))) (NoT.lt _) ?_ ?_ ?_))
   ·go_light; (try simp only [List.length_cons, List.length_nil]); omega
   ·go_light; have := hB.size; (try simp only [World.size_alloc] at *); omega
   intro v7 w7 hO7 hg7 hv7
   have hB7 := below_grown (hB.alloc hB.size (.cells #[.int .i64 1] 3)) hg7 (by simp only [World.size_alloc]; have := hB.size; omega) (fun g' h => (hO.lt h).1)
   go_wp2_with fail
   go_meet
   case rel => exact ⟨hq1 ▸ hO7, hB7⟩
  | false =>
   have hkk : k1 = k2 := by simpa using hnb.symm
   have hq1 : Hid (q = if k1 = 0 ∧ lk.isSome = true then [3] else []) := by show _ = _; rw [Hq.out, if_neg]; intro h; exact h hkk
   clear hnb Hq hkk
   have z1 := y1.cell 0
   have z2 := y2.cell 0
   have l1 := y1.lt
   have l2 := y2.lt
   have z3 : World.cell? _ _ = some (.int .i64 fk) := y3.cell 3
   have l3 := y3.lt
   have l4 := y4.lt
   go_wp2_with fail
   refine (HK3.out _).mono ?_
   rintro e w1 ⟨rfl, hw1⟩
   rw [hw1]
   clear hw1
   by_cases h0 : k1 = 0
   ·subst h0
    have hq2 : Hid (q = if lk.isSome = true then [3] else []) := by show _ = _; rw [hq1.out]; simp
    have c3 := y3.five
    have c4 := y4.five
    obtain ⟨c30, c31, c32, c33, c34⟩ := c3
    obtain ⟨c40, c41, c42, c43, c44⟩ := c4
    clear hq1
    go_wp2_with fail
    refine (hlk.out _ hG).mono ?_
    rintro e w2 ⟨rfl, hb2⟩
    have hO2 := (Own.nil_ W0.heap.size 3 1 RInt NoT w2)
    cases lk with
    | none =>
     go_wp2_with fail
     go_meet
     case rel => exact ⟨hq2.out ▸ hO2, hb2⟩
    | some x =>
     clear hO hB
     go_wp2_with (at_builtin; go_must (refine wl_append _ rfl (.tmp 35) (.tmp 36) rfl sl_intsC RInt.fair rfl rfl (hO2.alloc RInt.fair _) (Src.one (es := [.int .i64 3]) (y := (3 : Int)) rfl (Ones.of_all rfl) rfl (Lies.newAt (by first | rfl | simp [World.setCell]))) (NoT.lt _) ?_ ?_ ?_))
     ·go_light; (try simp only [List.length_cons, List.length_nil]); omega
     ·go_light; have := hb2.size; (try simp only [World.size_alloc] at *); omega
     intro v7 w7 hO7 hg7 hv7
     have hB7 := below_grown (hb2.alloc hb2.size (.cells #[.int .i64 3] 3)) hg7 (by simp only [World.size_alloc]; have := hb2.size; omega) (fun g' h => (hO2.lt h).1)
     go_wp2_with fail
     go_meet
     case rel => exact ⟨hq2.out ▸ hO7, hB7⟩
   ·have hq2 : q = [] := by rw [hq1.out, if_neg]; intro h; exact h0 h.1
    clear hq1
    go_wp2_with fail
    go_meet
    case rel => exact ⟨hq2 ▸ hO, hB⟩
 case rest =>
  obtain ⟨hO, hB⟩ := hcut
  obtain ⟨V1, hV1⟩ : ∃ V, V = wc := ⟨_, rfl⟩
  subst hV1
  obtain ⟨As, cs, rfl, -⟩ := hO.form
  have u3 := y3.below hB y3.lt
  have u4 := y4.below hB y4.lt
  have hG1 := below_via hG hB hG.size
  have z3 : World.cell? _ _ = some (.int .i64 fr) := u3.cell 4
  have z4 : World.cell? _ _ = some (.int .i64 gr) := u4.cell 4
  have l3 := u3.lt
  have l4 := u4.lt
  clear y1 y2 y3 y4 u3 u4 Hq HK3 hlk hnb
  by_cases h3 : fr = 3
  ·subst h3
   by_cases h4 : gr = 3
   ·subst h4
    have hp1 : Hid (p = sortS ltInt q) := by show _ = _; rw [Hp.out]; simp; rfl
    have hS := Lib.hid (sortInts_any _ _ q _ hO (by first | exact HL7.out | omega))
    go_wp2_with fail
    refine hS.out.mono ?_
    rintro e w9 ⟨rfl, hg9, hr9⟩
    have hB9 := below_grown hB hg9 hB.size (fun g' h => (hO.lt h).1)
    go_wp2_with fail
    go_ret
    exact ⟨_, rfl, by rw [hp1.out]; exact (RSl.fair RInt.fair).mono hr9 (fun k h _ => Nat.le_trans hG.size (hO.lt h).1), below_via hG hB9 hG.size⟩
   ·--[T2
    have hp1 : Hid (p = sortS ltInt (q ++ [2])) := by show _ = _; rw [Hp.out, if_pos ⟨rfl, h4⟩]; rfl
    go_wp2_with (at_builtin; go_must (refine wl_append _ rfl (.tmp 46) (.tmp 47) rfl sl_intsC RInt.fair rfl rfl (hO.alloc RInt.fair _) (Src.one (es := [.int .i64 2]) (y := (2 : Int)) rfl (Ones.of_all rfl) rfl (Lies.newAt (by first | rfl | simp [World.setCell]))) (NoT.lt _) ?_ ?_ ?_))
    ·go_light; (try simp only [List.length_cons, List.length_nil]); omega
    ·go_light; have := hB.size; (try simp only [World.size_alloc] at *); omega
    intro v7 w7 hO7 hg7 hv7
    have hB7 := below_grown (hB.alloc hB.size (.cells #[.int .i64 2] 3)) hg7 (by simp only [World.size_alloc]; have := hB.size; omega) (fun g' h => (hO.lt h).1)
    obtain ⟨l7, hl7⟩ : ∃ l, l = q ++ [2] := ⟨_, rfl⟩
    have hll : l7.length ≤ 1000000 := by rw [hl7]; simp; omega
    have HL7 := Lib.hid hll
    rw [← hl7] at hO7 hp1
    clear hll hl7 hql
    obtain ⟨A7, c7, rfl, -⟩ := hO7.form
    clear hO hB hg7 z3 z4
    have hS := Lib.hid (sortInts_any _ _ l7 _ hO7 (by first | exact HL7.out | omega))
    go_wp2_with fail
    refine hS.out.mono ?_
    rintro e w9 ⟨rfl, hg9, hr9⟩
    have hB9 := below_grown hB7 hg9 hB7.size (fun g' h => (hO7.lt h).1)
    go_wp2_with fail
    go_ret
    exact ⟨_, rfl, by rw [hp1.out]; exact (RSl.fair RInt.fair).mono hr9 (fun k h _ => Nat.le_trans hG.size (hO7.lt h).1), below_via hG hB9 hG.size⟩
  ·--[T3
   have hp1 : Hid (p = sortS ltInt q) := by show _ = _; rw [Hp.out, if_neg (fun h => h3 h.1), List.append_nil]; rfl
   have hS := Lib.hid (sortInts_any _ _ q _ hO (by first | exact HL7.out | omega))
   go_wp2_with fail
   refine hS.out.mono ?_
   rintro e w9 ⟨rfl, hg9, hr9⟩
   have hB9 := below_grown hB hg9 hB.size (fun g' h => (hO.lt h).1)
   go_wp2_with fail
   go_ret
   exact ⟨_, rfl, by rw [hp1.out]; exact (RSl.fair RInt.fair).mono hr9 (fun k h _ => Nat.le_trans hG.size (hO.lt h).1), below_via hG hB9 hG.size⟩
end Go.Proofs.YtfidfakcbjoilaaGreatDoor
