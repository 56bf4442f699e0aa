/- The walks of the document's own reads and its inner function. -/
import Derived.Test.YtfidfakcbjoilaaGreatDoorRefFlawsLaw
import Derived.Test.YtfidfakcbjoilaaGreatDoorRefSize
import Derived.Test.YtfidfakcbjoilaaGreatDoorRefA
import Derived.Test.YtfidfakcbjoilaaGreatDoorWhys
import Derived.Test.YtfidfakcbjoilaaGreatDoorLates
set_option linter.all false
set_option maxRecDepth 100000
set_option maxHeartbeats 8000000
namespace Go.Proofs.YtfidfakcbjoilaaGreatDoor
open Go.RowKit
def meansT (g : FieldD) (tz : TypeD) (n : Int) : Bool := (decide (g.kind = 1) && (decide (n = 0) || decide (n = 1))) || (decide (g.kind = 4) && meansF tz n)
theorem meansT_any (S : Nat → Prop) (G Y : Nat) (gi gk gr : Int) (gn gt : ByteArray) (tz : TypeD) (R1 R2 R3 : Option Addr) (r1 r2 r3 : Nat) (n : Int) (w : World) (hg : Box w G 55 [.int .i64 gi, .string gn, .string gt, .int .i64 gk, .int .i64 gr]) (hY : Box w Y 46 [.string tz.name, .bool tz.enum, .slice R1 tz.fields.length r1, .slice R2 tz.gone.length r2, .slice R3 tz.items.length r3]) (ht : RType S w [.string tz.name, .bool tz.enum, .slice R1 tz.fields.length r1, .slice R2 tz.gone.length r2, .slice R3 tz.items.length r3] tz) :
  Calls Tryz.prog 82 #[.int .i64 n, .pointer (some ⟨G, 0, none⟩), .pointer (some ⟨Y, 0, none⟩)] w (Ret w (.bool (meansT ⟨gi, gn, gt, gk, gr⟩ tz n))) := by
 obtain ⟨p, hp⟩ : ∃ p, p = meansT ⟨gi, gn, gt, gk, gr⟩ tz n := ⟨_, rfl⟩
 have Hp : Hid (p = ((decide (gk = 1) && (decide (n = 0) || decide (n = 1))) || (decide (gk = 4) && meansF tz n))) := hp
 rw [← hp]
 have hm := Lib.hid (itemIn_any S _ tz n w ht)
 have c3 : w.cell? ⟨G, 3, none⟩ = some (.int .i64 gk) := hg.cell 3
 have gl := hg.lt
 obtain ⟨y0, y1, y2, y3, y4⟩ := hY.five
 have yl := hY.lt
 clear hp hg hY ht
 by_cases h1 : gk = 1
 ·subst h1
  by_cases h0 : n = 0
  ·subst h0
   have Hp2 : Hid (p = true) := by show _ = _; rw [Hp.out]; simp
   clear Hp
   go_enter Tryz.func82, Tryz.ntmps82
   go_wp2_with fail
   go_ret
   exact ⟨by rw [Hp2.out]; rfl, Below.here w⟩
  ·by_cases h2 : n = 1
   ·subst h2
    have Hp2 : Hid (p = true) := by show _ = _; rw [Hp.out]; simp
    clear Hp
    go_enter Tryz.func82, Tryz.ntmps82
    go_wp2_with fail
    go_ret
    exact ⟨by rw [Hp2.out]; rfl, Below.here w⟩
   ·have Hp2 : Hid (p = false) := by show _ = _; rw [Hp.out]; simp [h0, h2]
    have e0 : (n == 0) = false := by simpa using h0
    have e1 : (n == 1) = false := by simpa using h2
    clear Hp h0 h2
    go_enter Tryz.func82, Tryz.ntmps82
    go_wp2_with fail
    go_ret
    exact ⟨by rw [Hp2.out]; rfl, Below.here w⟩
 ·have e1 : (gk == 1) = false := by simpa using h1
  by_cases h4 : gk = 4
  ·subst h4
   have Hp2 : Hid (p = meansF tz n) := by show _ = _; rw [Hp.out]; simp
   clear Hp h1
   go_enter Tryz.func82, Tryz.ntmps82
   go_wp2_with fail
   refine hm.out.mono ?_
   rintro e w1 ⟨rfl, hb1⟩
   go_wp2_with fail
   go_ret
   exact ⟨by rw [Hp2.out]; rfl, hb1⟩
  ·have e4 : (gk == 4) = false := by simpa using h4
   have Hp2 : Hid (p = false) := by show _ = _; rw [Hp.out]; simp [h1, h4]
   clear Hp h1 h4
   go_enter Tryz.func82, Tryz.ntmps82
   go_wp2_with fail
   go_ret
   exact ⟨by rw [Hp2.out]; rfl, Below.here w⟩
theorem own_ints {base : Nat} {w : World} {v : Value} {l : List Int} (h : Own base 3 1 RInt NoT w v l) (hl : l.length ≤ 1000000) {S : Nat → Prop} (hS : ∀ g, base ≤ g → S g) : RSl 1 8 RInt S w [v] l :=
 h.read RInt.fair (by_ := 8) (fun g h _ => h.elim) (fun k hk => hS k (h.lt hk).1) (by omega)
theorem reads_any (S : Nat → Prop) (vw vr : Value) (bw br : BookD) (fi fk fr gi gk gr : Int) (fn ft gn gt : ByteArray) (w : World) (hb1 : RSl 5 96 RType S w [vw] bw) (hb2 : RSl 5 96 RType S w [vr] br) (hf0 : 0 ≤ fk) (hf5 : fk ≤ 5) (hg0 : 0 ≤ gk) (hg5 : gk ≤ 5) :
  Calls Tryz.prog 51 #[.agg #[vw], .agg #[vr], .agg #[.int .i64 fi, .string fn, .string ft, .int .i64 fk, .int .i64 fr], .agg #[.int .i64 gi, .string gn, .string gt, .int .i64 gk, .int .i64 gr]] w (WhysPost w (readsF bw br ⟨fi, fn, ft, fk, fr⟩ ⟨gi, gn, gt, gk, gr⟩)) := by
 obtain ⟨AW, cw, rfl, -, -⟩ := hb1.form
 obtain ⟨AR, cr, rfl, -, -⟩ := hb2.form
 obtain ⟨x1, x2, x3, x4, x5⟩ := boxes4 w [.slice AW bw.length cw] [.slice AR br.length cr] [.int .i64 fi, .string fn, .string ft, .int .i64 fk, .int .i64 fr] [.int .i64 gi, .string gn, .string gt, .int .i64 gk, .int .i64 gr] 24 24 55 55
 have f1 := Lib.hid (fun W (h : Below w.heap.size w W) => typeOf_any (Old w) _ bw ft W ((RSl.fair RType.fair).below ((RSl.fair RType.fair).old hb1) h))
 have f2 := Lib.hid (fun W (h : Below w.heap.size w W) => typeOf_any (Old w) _ br gt W ((RSl.fair RType.fair).below ((RSl.fair RType.fair).old hb2) h))
 obtain ⟨p, hp⟩ : ∃ p, p = readsF bw br ⟨fi, fn, ft, fk, fr⟩ ⟨gi, gn, gt, gk, gr⟩ := ⟨_, rfl⟩
 obtain ⟨q1, hq1⟩ : ∃ q : List Int, q = if kindOf fk ≠ kindOf gk then [1] else [] := ⟨_, rfl⟩
 obtain ⟨q2, hq2⟩ : ∃ q : List Int, q = if fr = 3 ∧ gr ≠ 3 then [2] else [] := ⟨_, rfl⟩
 obtain ⟨bd, hbd⟩ : ∃ b, b = badR bw br ⟨fi, fn, ft, fk, fr⟩ ⟨gi, gn, gt, gk, gr⟩ := ⟨_, rfl⟩
 have hl1 : q1.length ≤ 1 := by rw [hq1]; split <;> simp
 have hl2 : q2.length ≤ 1 := by rw [hq2]; split <;> simp
 have Hp : Hid (p = (q1 ++ q2) ++ (if kindOf fk ≠ 0 ∨ kindOf gk ≠ 0 ∨ gk = 2 then [] else if bd = true then [3] else [])) := by show _ = _; rw [hp, hq1, hq2, hbd]; rfl
 have Hq1 := Lib.hid hq1
 have Hq2 := Lib.hid hq2
 have Hbd := Lib.hid hbd
 rw [← hp]
 have wk1 := Lib.hid (fun W => wireKind_any fk W hf0 hf5)
 have wk2 := Lib.hid (fun W => wireKind_any gk W hg0 hg5)
 clear hb1 hb2 hp hq1 hq2 hbd hf0 hf5 hg0 hg5
 go_enter Tryz.func51, Tryz.ntmps51
 go_upto_region 2 with fail
 generalize (World.alloc _ (Obj.cells [.int .i64 gi, .string gn, .string gt, .int .i64 gk, .int .i64 gr].toArray 55)) = V at x1 x2 x3 x4 x5 ⊢
 have HS := Lib.hid (fun W (h : Below V.heap.size V W) => show (fun W' => World.cell? W' ⟨w.heap.size + 1 + 1, 3, none⟩ = some (.int .i64 fk) ∧ World.cell? W' ⟨w.heap.size + 1 + 1 + 1, 3, none⟩ = some (.int .i64 gk)) W from ⟨(x3.below h x3.lt).cell 3, (x4.below h x4.lt).cell 3⟩)
 have hbd := below_drew (Below.here V)
 have hS := HS.out _ hbd
 refine lateP_start (fun W' => World.cell? W' ⟨w.heap.size + 1 + 1, 3, none⟩ = some (.int .i64 fk) ∧ World.cell? W' ⟨w.heap.size + 1 + 1 + 1, 3, none⟩ = some (.int .i64 gk)) (fun _ => true) (by kernel_rfl) ?_
 generalize V.drew = Wd at hS hbd ⊢
 refine ppP 0 ?_
 try simp only [pu]
 refine tkP 1 hS ?_
 try simp only [pu]
 refine ppP 3 ?_
 try simp only [pu]
 refine tkP 4 hS ?_
 try simp only [pu]
 refine lateP_one (i := 2) rfl (by kernel_rfl) (fun K hK => ?_)
 go_simp
 refine (wk1.out _).mono ?_
 rintro e w1 ⟨rfl, hb1⟩
 have hB1 := below_via hbd hb1 hbd.size
 replace hS := HS.out _ hB1
 refine hK.out _ _ (fun _ _ => hS) ?_
 clear hK K
 try simp only [pu]
 refine lateP_one (i := 5) rfl (by kernel_rfl) (fun K hK => ?_)
 go_simp
 refine (wk2.out _).mono ?_
 rintro e w2 ⟨rfl, hb2⟩
 have hB2 := below_via hB1 hb2 hB1.size
 replace hS := HS.out _ hB2
 refine hK.out _ _ (fun _ _ => hS) ?_
 clear hK K
 try simp only [pu]
 refine ppP 6 ?_
 try simp only [pu]
 refine ppP 7 ?_
 try simp only [pu]
 refine lateP_done (by kernel_rfl) ?_ _
 have y1 := x1.below hB2 x1.lt
 have y2 := x2.below hB2 x2.lt
 have y3 := x3.below hB2 x3.lt
 have y4 := x4.below hB2 x4.lt
 have hG := below_via x5 hB2 x5.size
 have Hle := Lib.hid hG.size
 obtain ⟨k1, hk1⟩ : ∃ k, k = kindOf fk := ⟨_, rfl⟩
 obtain ⟨k2, hk2⟩ : ∃ k, k = kindOf gk := ⟨_, rfl⟩
 rw [← hk1, ← hk2] at Hq1 Hp
 rw [← hk1, ← hk2]
 clear x1 x2 x3 x4 x5 hS HS hbd hb1 hB1 hb2 hB2 hk1 hk2 wk1 wk2
 go_upto_if 28 with fail
 obtain ⟨nb, hnb⟩ : ∃ nb, nb = (k1 != k2) := ⟨_, rfl⟩
 rw [← hnb]
 go_cut [9] from 29 to 31 (fun c W1 => Own w2.heap.size 3 1 RInt NoT W1 c q1 ∧ Below w2.heap.size w2 W1)
 case first =>
  have hO := (Own.nil_ w2.heap.size 3 1 RInt NoT w2)
  have hB := Below.here w2
  cases nb with
  | true =>
   have e1 : q1 = [1] := by rw [Hq1.out, if_pos]; intro h; rw [h] at hnb; simp at hnb
   clear hnb Hp
   go_wp2_with (at_builtin; go_must (refine wl_append _ rfl (.tmp 29) (.tmp 30) rfl sl_intsC RInt.fair rfl rfl (hO.alloc RInt.fair _) (Src.one (es := [.int .i64 1]) (y := (1 : Int)) rfl (Ones.of_all rfl) rfl (Lies.newAt (by first | rfl | simp [World.setCell]))) (NoT.lt _) ?_ ?_ ?_))
   ·go_light; (try simp only [List.length_cons, List.length_nil]); omega
   ·go_light; have := hB.size; (try simp only [World.size_alloc] at *); omega
   intro v7 w7 hO7 hg7 hv7
   have hB7 := below_grown (hB.alloc hB.size (.cells #[.int .i64 1] 3)) hg7 (by simp only [World.size_alloc]; have := hB.size; omega) (fun g' h => (hO.lt h).1)
   go_wp2_with fail
   go_meet
   case rel => exact ⟨e1 ▸ hO7, hB7⟩
  | false =>
   have hkk : k1 = k2 := by simpa using hnb.symm
   have e1 : q1 = [] := by rw [Hq1.out, if_neg]; intro h; exact h hkk
   clear hnb Hp
   go_wp2_with fail
   go_meet
   case rel => exact ⟨e1 ▸ hO, hB⟩
 case rest =>
  obtain ⟨hO, hB⟩ := hcut
  obtain ⟨V1, hV1⟩ : ∃ V, V = wc := ⟨_, rfl⟩
  subst hV1
  obtain ⟨As, cs, rfl, -⟩ := hO.form
  have u1 := y1.below hB y1.lt
  have u2 := y2.below hB y2.lt
  have u3 := y3.below hB y3.lt
  have u4 := y4.below hB y4.lt
  have hG1 := below_via hG hB hG.size
  obtain ⟨f0, f1', f2', f3, f4⟩ := u3.five
  obtain ⟨g0, g1, g2, g3, g4⟩ := u4.five
  have l3 := u3.lt
  have l4 := u4.lt
  clear hnb Hq1
  obtain ⟨nq, hnq⟩ : ∃ b, b = decide (fr = 3 ∧ gr ≠ 3) := ⟨_, rfl⟩
  have Hnq := Lib.hid hnq
  clear hnq
  go_upto_region 5 with fail
  go_cut [39] from 32 to 38 (fun c W1 => c = .bool nq ∧ Own w2.heap.size 3 1 RInt NoT W1 (.slice As q1.length cs) q1 ∧ Below w2.heap.size w2 W1)
  case first =>
   by_cases h3 : fr = 3
   ·subst h3
    by_cases h4 : gr = 3
    ·subst h4
     have e2 : nq = false := by rw [Hnq.out]; simp
     clear Hp Hq2
     go_wp2_with fail
     go_meet
     case rel => exact ⟨by rw [e2], hO, hB⟩
    ·have e2 : nq = true := by rw [Hnq.out]; simp [h4]
     have b4 : (gr != 3) = true := by simpa using h4
     clear Hp Hq2 h4
     go_wp2_with fail
     go_meet
     case rel => exact ⟨by rw [e2], hO, hB⟩
   ·have e2 : nq = false := by rw [Hnq.out]; simp [h3]
    have b3 : (fr == 3) = false := by simpa using h3
    clear Hp Hq2 h3
    go_wp2_with fail
    go_meet
    case rel => exact ⟨by rw [e2], hO, hB⟩
  case rest =>
  clear hO hB u1 u2 u3 u4 hG1 f0 f1' f2' f3 f4 g0 g1 g2 g3 g4 l3 l4
  obtain ⟨rfl, hO, hB⟩ := hcut
  obtain ⟨V3, hV3⟩ : ∃ V, V = wc := ⟨_, rfl⟩
  subst hV3
  have Hq3 : Hid (q1 ++ q2 = q1 ++ if nq = true then [2] else []) := by
   show _ = _
   rw [Hq2.out, Hnq.out]
   by_cases h : fr = 3 ∧ gr ≠ 3 <;> simp [h]
  go_upto_if 39 with fail
  go_cut [9] from 40 to 42 (fun c W1 => Own w2.heap.size 3 1 RInt NoT W1 c (q1 ++ q2) ∧ Below w2.heap.size w2 W1)
  case first =>
   cases nq with
   | true =>
    have e2 : q1 ++ q2 = q1 ++ [2] := by rw [Hq3.out]; rfl
    clear Hp
    go_wp2_with (at_builtin; go_must (refine wl_append _ rfl (.tmp 40) (.tmp 41) rfl sl_intsC RInt.fair rfl rfl (hO.alloc RInt.fair _) (Src.one (es := [.int .i64 2]) (y := (2 : Int)) rfl (Ones.of_all rfl) rfl (Lies.newAt (by first | rfl | simp [World.setCell]))) (NoT.lt _) ?_ ?_ ?_))
    ·go_light; (try simp only [List.length_cons, List.length_nil]); omega
    ·go_light; have := hB.size; (try simp only [World.size_alloc] at *); omega
    intro v7 w7 hO7 hg7 hv7
    have hB7 := below_grown (hB.alloc hB.size (.cells #[.int .i64 2] 3)) hg7 (by simp only [World.size_alloc]; have := hB.size; omega) (fun g' h => (hO.lt h).1)
    go_wp2_with fail
    go_meet
    case rel => exact ⟨by rw [e2]; exact hO7, hB7⟩
   | false =>
    have e2 : q1 ++ q2 = q1 := by rw [Hq3.out]; simp
    clear Hp
    go_wp2_with fail
    go_meet
    case rel => exact ⟨by rw [e2]; exact hO, hB⟩
  case rest =>
   clear hO hB
   obtain ⟨hO, hB⟩ := hcut
   obtain ⟨V2, hV2⟩ : ∃ V, V = wc := ⟨_, rfl⟩
   subst hV2
   obtain ⟨q, hq⟩ : ∃ q, q = q1 ++ q2 := ⟨_, rfl⟩
   have hql : q.length ≤ 2 := by rw [hq, List.length_append]; omega
   rw [← hq] at hO Hp
   clear hq hl1 hl2 Hq2
   obtain ⟨As2, cs2, rfl, -⟩ := hO.form
   have u1 := y1.below hB y1.lt
   have u2 := y2.below hB y2.lt
   have u3 := y3.below hB y3.lt
   have u4 := y4.below hB y4.lt
   have hG2 := below_via hG hB hG.size
   have Hfin := Lib.hid (own_ints hO (by omega) (S := New w) (fun g h => Nat.le_trans hG.size h))
   obtain ⟨f0, f1', f2', f3, f4⟩ := u3.five
   obtain ⟨g0, g1, g2, g3, g4⟩ := u4.five
   have l3 := u3.lt
   have l4 := u4.lt
   by_cases e1 : k1 = 0
   ·subst e1
    by_cases e2 : k2 = 0
    ·subst e2
     by_cases e3 : gk = 2
     ·subst e3
      have Hp2 : Hid (p = q) := by show _ = _; rw [Hp.out]; simp
      go_wp2_with fail
      go_ret
      exact ⟨_, rfl, by rw [Hp2.out]; exact Hfin.out, hG2⟩
     ·--[FULL
      have b3 : (gk == 2) = false := by simpa using e3
      have Hp2 : Hid (p = q ++ (if bd = true then [3] else [])) := by show _ = _; rw [Hp.out, if_neg (by simp [e3])]
      have z1 := u1.cell 0
      have l1 := u1.lt
      clear Hp e3 y1 y2 y3 y4 hG Hfin
      go_wp2_with fail
      refine (f1.out _ hG2).mono ?_
      rintro e w3 ⟨ct1, rfl, hr1, hb3⟩
      obtain ⟨t1, ht1⟩ : ∃ t, t = (findT bw ft).getD .zero := ⟨_, rfl⟩
      have Ht1 := Lib.hid ht1
      rw [← ht1] at hr1
      obtain ⟨P1, p1, P2, p2, P3, p3, rfl, -, -, -⟩ := hr1.parts
      have hBa := hb3.alloc hb3.size (.cells [.string t1.name, .bool t1.enum, .slice P1 t1.fields.length p1, .slice P2 t1.gone.length p2, .slice P3 t1.items.length p3].toArray 46)
      have k1' := Box.new w3 46 [.string t1.name, .bool t1.enum, .slice P1 t1.fields.length p1, .slice P2 t1.gone.length p2, .slice P3 t1.items.length p3]
      have hr1' := RType.fair.below (RType.fair.below hr1 hb3) ((Below.here w3).alloc (Nat.le_refl _) (.cells [.string t1.name, .bool t1.enum, .slice P1 t1.fields.length p1, .slice P2 t1.gone.length p2, .slice P3 t1.items.length p3].toArray 46))
      clear z1 l1 f0 f1' f2' f3 f4 g0 g1 g2 g3 g4 l3 l4 hr1 hb3 ht1 f1
      go_upto_region 10 with fail
      generalize w3.heap.size = Y1 at k1' ⊢
      generalize (World.alloc w3 _) = w4 at hBa k1' hr1' ⊢
      have v2 := u2.below hBa u2.lt
      have v4 := u4.below hBa u4.lt
      have hG4 := below_via hG2 hBa hG2.size
      have z2 := v2.cell 0
      have l2 := v2.lt
      have g2 : w4.cell? ⟨w.heap.size + 1 + 1 + 1, 2, none⟩ = some (.string gt) := v4.cell 2
      have l4 := v4.lt
      go_wp2_with fail
      refine (f2.out _ hG4).mono ?_
      rintro e w5 ⟨ct2, rfl, hr2, hb5⟩
      obtain ⟨tz, ht2⟩ : ∃ t, t = (findT br gt).getD .zero := ⟨_, rfl⟩
      have Ht2 := Lib.hid ht2
      rw [← ht2] at hr2
      obtain ⟨R1, r1, R2, r2, R3, r3, rfl, -, -, -⟩ := hr2.parts
      have hBb := (below_via hBa hb5 hBa.size).alloc (below_via hBa hb5 hBa.size).size (.cells [.string tz.name, .bool tz.enum, .slice R1 tz.fields.length r1, .slice R2 tz.gone.length r2, .slice R3 tz.items.length r3].toArray 46)
      have k1b := (k1'.below hb5 k1'.lt).alloc (.cells [.string tz.name, .bool tz.enum, .slice R1 tz.fields.length r1, .slice R2 tz.gone.length r2, .slice R3 tz.items.length r3].toArray 46)
      have k2b := Box.new w5 46 [.string tz.name, .bool tz.enum, .slice R1 tz.fields.length r1, .slice R2 tz.gone.length r2, .slice R3 tz.items.length r3]
      have hr1b := RType.fair.below (RType.fair.below hr1' hb5) ((Below.here w5).alloc (Nat.le_refl _) (.cells [.string tz.name, .bool tz.enum, .slice R1 tz.fields.length r1, .slice R2 tz.gone.length r2, .slice R3 tz.items.length r3].toArray 46))
      have hr2b := RType.fair.below (RType.fair.below hr2 hb5) ((Below.here w5).alloc (Nat.le_refl _) (.cells [.string tz.name, .bool tz.enum, .slice R1 tz.fields.length r1, .slice R2 tz.gone.length r2, .slice R3 tz.items.length r3].toArray 46))
      clear z2 l2 g2 l4 v2 v4 hG4 hBa k1' hr1' hr2 hb5 ht2 f2
      go_upto_region 11 with fail
      generalize w5.heap.size = Y2 at k2b ⊢
      generalize (World.alloc w5 _) = V5 at hBb k1b k2b hr1b hr2b ⊢
      have v3 := u3.below hBb u3.lt
      have v4 := u4.below hBb u4.lt
      have hO5 := hO.below RInt.fair hBb
      have hB5 := below_via hB hBb hB.size
      have hG5 := below_via hG2 hBb hG2.size
      have HV := Lib.hid (And.intro v3 (And.intro v4 (And.intro k1b (And.intro k2b (And.intro hr1b (And.intro hr2b (And.intro hO5 (And.intro hB5 hG5))))))))
      obtain ⟨b0, hb0⟩ : ∃ b, b = (if fk = 1 then !meansT ⟨gi, gn, gt, gk, gr⟩ tz 0 || !meansT ⟨gi, gn, gt, gk, gr⟩ tz 1 else decide (fk = 2)) := ⟨_, rfl⟩
      have Hb0 := Lib.hid hb0
      have Hbd2 : Hid (bd = t1.items.foldl (fun b x => b || !meansT ⟨gi, gn, gt, gk, gr⟩ tz x.n) b0) := by show _ = _; rw [Hbd.out, hb0, Ht1.out, Ht2.out]; rfl
      have Hmt := Lib.hid (fun (n : Int) W (h : Below V5.heap.size V5 W) => meansT_any (Old w) (w.heap.size + 1 + 1 + 1) Y2 gi gk gr gn gt tz R1 R2 R3 r1 r2 r3 n W (v4.below h v4.lt) (k2b.below h k2b.lt) (RType.fair.below hr2b h))
      have z3 : V5.cell? ⟨w.heap.size + 1 + 1, 3, none⟩ = some (.int .i64 fk) := v3.cell 3
      have l3 := v3.lt
      clear u1 u2 u3 u4 hG2 hO hB hBb k1b k2b hr1b hr2b v3 v4 hO5 hB5 hG5 hb0 Hbd
      go_upto_if 75 with fail
      go_cut [16] from 76 to 83 (fun c W1 => c = .bool b0 ∧ Below V5.heap.size V5 W1)
      case first =>
       by_cases e1 : fk = 1
       ·subst e1
        have Hb1 : Hid (b0 = (!meansT ⟨gi, gn, gt, gk, gr⟩ tz 0 || !meansT ⟨gi, gn, gt, gk, gr⟩ tz 1)) := by show _ = _; rw [Hb0.out, if_pos rfl]
        have hm0 := Lib.hid (Hmt.out 0 _ (Below.here V5))
        have Hm1 := Lib.hid (Hmt.out 1)
        obtain ⟨m0, hm0e⟩ : ∃ m, m = meansT ⟨gi, gn, gt, gk, gr⟩ tz 0 := ⟨_, rfl⟩
        obtain ⟨m1, hm1e⟩ : ∃ m, m = meansT ⟨gi, gn, gt, gk, gr⟩ tz 1 := ⟨_, rfl⟩
        rw [← hm0e] at hm0 Hb1
        rw [← hm1e] at Hm1 Hb1
        clear hm0e hm1e Hb0 Hmt
        go_wp2_with fail
        refine hm0.out.mono ?_
        rintro e w6 ⟨rfl, hb6⟩
        cases m0 with
        | false =>
         go_wp2_with fail
         go_meet
         case rel => exact ⟨by rw [Hb1.out]; rfl, hb6⟩
        | true =>
         have hm1 := Lib.hid (Hm1.out _ hb6)
         go_wp2_with fail
         refine hm1.out.mono ?_
         rintro e w7 ⟨rfl, hb7⟩
         cases m1 <;>
         ·go_wp2_with fail
          go_meet
          case rel => exact ⟨by rw [Hb1.out]; rfl, below_via hb6 hb7 hb6.size⟩
       ·have hb1 : (fk == 1) = false := by simpa using e1
        have Hb1 : b0 = decide (fk = 2) := by rw [Hb0.out, if_neg e1]
        clear e1
        go_wp2_with fail
        go_meet
        case rel => exact ⟨by rw [Hb1]; congr 1, Below.here V5⟩
      case rest =>
       obtain ⟨rfl, hB6⟩ := hcut
       obtain ⟨V6, hV6⟩ : ∃ V, V = wc := ⟨_, rfl⟩
       subst hV6
       obtain ⟨v3, v4, k1b, k2b, hr1b, hr2b, hO5, hB5, hG5⟩ := HV.out
       have c6 := k1b.below hB6 k1b.lt
       have c64 : V6.cell? ⟨Y1, 4, none⟩ = some (.slice P3 t1.items.length p3) := c6.cell 4
       have c6l := c6.lt
       have hit := (RType.rows_ hr1b).2.2
       obtain ⟨_, _, -, -, hib⟩ := hit.form
       have Hit := Lib.hid hit
       clear z3 l3 c6 v3 v4 k1b k2b hr1b hr2b hO5 hB5 hG5 hit
       go_wp2_with fail
       clear c64 c6l
       go_loopw [16, 87] (fun c16 c87 wr => ∃ (k : Nat) (bk : Bool), c16 = .bool bk ∧ c87 = .int .i64 k ∧ k ≤ t1.items.length ∧ Hid (bd = (t1.items.drop k).foldl (fun b x => b || !meansT ⟨gi, gn, gt, gk, gr⟩ tz x.n) bk) ∧ Below V5.heap.size V5 wr) (fun _ c87 _ => t1.items.length - (intOf c87).toNat)
       case atStart => exact ⟨0, b0, rfl, rfl, Nat.zero_le _, Hbd2, hB6⟩
       case round =>
        clear hB6 Hb0 Hbd2
        obtain ⟨k, bk, rfl, rfl, hk, Hd, hB⟩ := hrel
        by_cases hlt : k < t1.items.length
        ·have hlt' : (k : Int) < (t1.items.length : Int) := by omega
         obtain ⟨gi', oi', es, rfl, hSi, hgi', -, hre, hci⟩ := ((RSl.fair RItem.fair).below Hit.out hB).at_ hlt
         have hdr : t1.items.drop k = t1.items[k] :: t1.items.drop (k + 1) := List.drop_eq_getElem_cons hlt
         obtain ⟨x, hx⟩ : ∃ x, x = t1.items[k] := ⟨_, rfl⟩
         rw [← hx] at hre hdr
         obtain rfl : es = itemCells x := hre
         obtain ⟨xn, xv⟩ := x
         have Hd2 : Hid (bd = (t1.items.drop (k + 1)).foldl (fun b x => b || !meansT ⟨gi, gn, gt, gk, gr⟩ tz x.n) (bk || !meansT ⟨gi, gn, gt, gk, gr⟩ tz xv)) := by show _ = _; rw [Hd.out, hdr]; rfl
         have r0 : wr.cell? ⟨gi', oi' + k * 2, none⟩ = some (.string xn) := hci.at_ 0 rfl
         have r1' : wr.cell? ⟨gi', oi' + k * 2 + 1, none⟩ = some (.int .i64 xv) := hci.at_ 1 rfl
         have hBx := hB.alloc hB.size (.cells #[.string xn, .int .i64 xv] 93)
         have hmx := Lib.hid (Hmt.out xv _ hBx)
         obtain ⟨mx, hmxe⟩ : ∃ m, m = meansT ⟨gi, gn, gt, gk, gr⟩ tz xv := ⟨_, rfl⟩
         rw [← hmxe] at hmx Hd2
         clear hSi hci hx hdr Hd hmxe hB
         cases bk with
         | true =>
          go_wp2_with fail
          go_roundw
          case rel => exact ⟨k + 1, true, rfl, by simp, by omega, Hd2, hBx⟩
          case measure => simp [intOf]; omega
         | false =>
          go_wp2_with fail
          refine hmx.out.mono ?_
          rintro e w8 ⟨rfl, hb8⟩
          cases mx with
          | true =>
           go_wp2_with fail
           go_roundw
           case rel => exact ⟨k + 1, false, rfl, by simp, by omega, Hd2, below_via hBx hb8 hBx.size⟩
           case measure => simp [intOf]; omega
          | false =>
           go_wp2_with fail
           go_roundw
           case rel => exact ⟨k + 1, true, rfl, by simp, by omega, Hd2, below_via hBx hb8 hBx.size⟩
           case measure => simp [intOf]; omega
        ·obtain rfl : k = t1.items.length := by omega
         have hbk : bd = bk := by rw [Hd.out, List.drop_length]; rfl
         subst hbk
         obtain ⟨v3, v4, k1b, k2b, hr1b, hr2b, hO5, hB5, hG5⟩ := HV.out
         have hO := hO5.below RInt.fair hB
         have hBw := below_via hB5 hB hB5.size
         have hGw := below_via hG5 hB hG5.size
         clear v3 v4 k1b k2b hr1b hr2b hO5 hB5 hG5 hB Hd HV
         cases bd with
         | true =>
          have Hp3 : Hid (p = q ++ [3]) := by show _ = _; rw [Hp2.out, if_pos rfl]
          go_wp2_with (at_builtin; go_must (refine wl_append _ rfl (.tmp 101) (.tmp 102) rfl sl_intsC RInt.fair rfl rfl (hO.alloc RInt.fair _) (Src.one (es := [.int .i64 3]) (y := (3 : Int)) rfl (Ones.of_all rfl) rfl (Lies.newAt (by first | rfl | simp [World.setCell]))) (NoT.lt _) ?_ ?_ ?_))
          ·go_light; (try simp only [List.length_cons, List.length_nil]); omega
          ·go_light; have := hBw.size; (try simp only [World.size_alloc] at *); omega
          intro v7 w7 hO7 hg7 hv7
          have hB7 := below_grown (hBw.alloc hBw.size (.cells #[.int .i64 3] 3)) hg7 (by simp only [World.size_alloc]; have := hBw.size; omega) (fun g' h => (hO.lt h).1)
          obtain ⟨l7, hl7⟩ : ∃ l, l = q ++ [3] := ⟨_, rfl⟩
          have hll : l7.length ≤ 3 := by rw [hl7]; simp; omega
          rw [← hl7] at hO7 Hp3
          obtain ⟨A7, c7, rfl, -⟩ := hO7.form
          have Hfin := Lib.hid (own_ints hO7 (by omega) (S := New w) (fun g h => Nat.le_trans Hle.out h))
          clear hl7
          go_wp2_with fail
          go_ret
          exact ⟨_, rfl, by rw [Hp3.out]; exact Hfin.out, below_grown (hGw.alloc hGw.size _) hg7 (by simp only [World.size_alloc]; exact Nat.le_succ_of_le hGw.size) (fun g' h => Nat.le_trans Hle.out (hO.lt h).1)⟩
         | false =>
          have Hp3 : Hid (p = q) := by show _ = _; rw [Hp2.out]; simp
          have Hfin := Lib.hid (own_ints hO (by omega) (S := New w) (fun g h => Nat.le_trans Hle.out h))
          go_wp2_with fail
          go_ret
          exact ⟨_, rfl, by rw [Hp3.out]; exact Hfin.out, hGw⟩
    ·have b2 : (k2 != 0) = true := by simpa using e2
     have Hp2 : Hid (p = q) := by show _ = _; rw [Hp.out, if_pos (.inr (.inl e2)), List.append_nil]
     clear e2
     go_wp2_with fail
     go_ret
     exact ⟨_, rfl, by rw [Hp2.out]; exact Hfin.out, hG2⟩
   ·have b1 : (k1 != 0) = true := by simpa using e1
    have Hp2 : Hid (p = q) := by show _ = _; rw [Hp.out, if_pos (.inl e1), List.append_nil]
    clear e1
    go_wp2_with fail
    go_ret
    exact ⟨_, rfl, by rw [Hp2.out]; exact Hfin.out, hG2⟩
end Go.Proofs.YtfidfakcbjoilaaGreatDoor
