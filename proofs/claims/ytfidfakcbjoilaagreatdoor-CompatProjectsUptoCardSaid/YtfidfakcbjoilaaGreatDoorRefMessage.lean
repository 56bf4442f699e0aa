/- The walks of the document's own messageOf and those. -/
import Derived.Test.YtfidfakcbjoilaaGreatDoorRefGood
import Derived.Test.YtfidfakcbjoilaaGreatDoorMergeRows
import Derived.Test.YtfidfakcbjoilaaGreatDoorValueTypedF
set_option linter.all false
set_option maxRecDepth 100000
set_option maxHeartbeats 8000000
namespace Go.Proofs.YtfidfakcbjoilaaGreatDoor
open Go.RowKit
def MsgPost (w : World) (k : Int) (e : Ending) (w' : World) : Prop := ∃ (t : TypeD) (A1 A2 A3 : Option Addr) (k1 k2 k3 : Nat),
 e = .returned (.tuple #[.agg #[.string t.name, .bool t.enum, .slice A1 t.fields.length k1, .slice A2 t.gone.length k2, .slice A3 t.items.length k3], .int .i64 k]) ∧ Below w.heap.size w w'
theorem msg_results {W : World} {a : Act} {g : Nat} {c0 c1 c2 c3 c4 : Value} {k : Int} (hb : Box W g 46 [c0, c1, c2, c3, c4]) (h4 : a.tmps.getD 4 undef = .pointer (some ⟨g, 0, none⟩)) (h5 : a.tmps.getD 5 undef = .int .i64 k) :
  (results Tryz.f55 a.tmps).run Tryz.prog W = .ok (.tuple #[.agg #[c0, c1, c2, c3, c4], .int .i64 k]) W := by
 obtain ⟨c0, c1, c2, c3, c4⟩ := hb.five
 simp only [Array.getD_eq_getD_getElem?] at h4 h5
 simp [results, Tryz.results55, go_sem, h4, h5, c0, c1, c2, c3, c4]
theorem messageOf_any (S : Nat → Prop) (vb : Value) (b : BookD) (name : ByteArray) (w : World) (hb0 : RSl 5 96 RType S w [vb] b) (hM : MaxL w) (hsz : BookOk b) (hsm : BookSmall b) :
  Calls Tryz.prog 55 #[.agg #[vb], .string name] w (MsgPost w (if goodF b ≠ 0 then 1 else if noneB b name = true then 3 else 0)) := by
 obtain ⟨A, cap, rfl, hlc, hlb⟩ := hb0.form
 have HB := Lib.hid hb0
 have HM := Lib.hid hM
 have Hgood := Lib.hid (fun W (h0 : RSl 5 96 RType S W [.slice A b.length cap] b) (h1 : MaxL W) => goodR_any S _ b W h0 h1 hsz hsm)
 obtain ⟨gd, hgd⟩ : ∃ gd, gd = goodF b := ⟨_, rfl⟩
 rw [noneB_eq, ← hgd]
 rw [← hgd] at Hgood
 obtain ⟨r, hr⟩ : ∃ r, r = if gd ≠ 0 then (1 : Int) else if (!(findT b name).isSome || (typeOf b name).enum) = true then 3 else 0 := ⟨_, rfl⟩
 rw [← hr]
 have Hr := Lib.hid hr
 obtain ⟨x1, x2, x3⟩ := boxes2 w [.slice A b.length cap] [.string ⟨#[]⟩, .bool false, .slice none 0 0, .slice none 0 0, .slice none 0 0] 24 46
 clear hb0 hM hgd hr
 go_enter Tryz.func55, Tryz.ntmps55
 go_wp2_with fail
 refine (typeOf_any S _ b name _ ((RSl.fair RType.fair).below HB.out x3)).mono ?_
 rintro e w1 ⟨cs3, rfl, hr3, hb1⟩
 obtain ⟨B1, l1, B2, l2, B3, l3, rfl, -, -, -⟩ := hr3.parts
 have hw1 := below_via x3 hb1 x3.size
 have y1 := x1.below hb1 x1.lt
 have y2 := x2.below hb1 x2.lt
 obtain ⟨ty, hty⟩ : ∃ ty, ty = typeOf b name := ⟨_, rfl⟩
 have hty' : (findT b name).getD TypeD.zero = ty := hty.symm
 rw [hty'] at hr3 ⊢
 rw [← hty] at Hr
 obtain ⟨ok, hok⟩ : ∃ ok, ok = (findT b name).isSome := ⟨_, rfl⟩
 rw [← hok] at Hr ⊢
 have hw2 := hw1.alloc hw1.size (.cells #[.string ty.name, .bool ty.enum, .slice B1 ty.fields.length l1, .slice B2 ty.gone.length l2, .slice B3 ty.items.length l3] 46)
 have z1 := y1.alloc (.cells #[.string ty.name, .bool ty.enum, .slice B1 ty.fields.length l1, .slice B2 ty.gone.length l2, .slice B3 ty.items.length l3] 46)
 have z2 := y2.alloc (.cells #[.string ty.name, .bool ty.enum, .slice B1 ty.fields.length l1, .slice B2 ty.gone.length l2, .slice B3 ty.items.length l3] 46)
 have z3 : Box (w1.alloc (.cells #[.string ty.name, .bool ty.enum, .slice B1 ty.fields.length l1, .slice B2 ty.gone.length l2, .slice B3 ty.items.length l3] 46)) w1.heap.size 46 [.string ty.name, .bool ty.enum, .slice B1 ty.fields.length l1, .slice B2 ty.gone.length l2, .slice B3 ty.items.length l3] := Box.new w1 _ _
 have s0 : w1.cell? ⟨w.heap.size, 0, none⟩ = some (.slice A b.length cap) := y1.cell 0
 have hl1 := y1.lt
 clear hb1 hty hty' hok hr3 x1 x2 x3
 go_wp2_with fail
 refine (Hgood.out _ ((RSl.fair RType.fair).below HB.out hw2) (HM.out.below hw2)).mono ?_
 rintro e w3 ⟨rfl, hb3⟩
 have hw3 := below_via hw2 hb3 hw2.size
 have v1 := z1.below hb3 z1.lt
 have v2 := z2.below hb3 z2.lt
 have v3 := z3.below hb3 z3.lt
 obtain ⟨t0, t1, t2, t3, t4⟩ := v3.five
 have hl3 := v3.lt
 clear hb3 z1 z2 z3 hw2 s0 hl1 y1 y2
 by_cases hg : gd = 0
 ·subst hg
  rw [if_neg (by simp)] at Hr
  obtain ⟨tyn, tye, tyf, tyg, tyi⟩ := ty
  dsimp only at Hr t0 t1 t2 t3 t4
  cases ok with
  | false =>
   simp only [Bool.not_false, Bool.true_or, if_true] at Hr
   have hb5 := v2.setCells [.string ⟨#[]⟩, .bool false, .slice none 0 0, .slice none 0 0, .slice none 0 0] rfl
   have hw5 := below_setCells (g := w.heap.size + 1) (Nat.le_succ _) [.string ⟨#[]⟩, .bool false, .slice none 0 0, .slice none 0 0, .slice none 0 0] 0 _ hw3
   obtain ⟨r0, r1, r2, r3, r4⟩ := v2.five
   have g0 := v2.frozen 0
   have g1 := v2.frozen 1
   have g2 := v2.frozen 2
   have g3 := v2.frozen 3
   have g4 := v2.frozen 4
   have hlr := v2.lt
   have H5 := Lib.hid hb5
   have HW := Lib.hid hw5
   clear hb5 hw5 v2
   go_wp2_with fail
   change bodyPost _ _ _ _ _ (setCells w3 (w.heap.size + 1) 0 [.string ⟨#[]⟩, .bool false, .slice none 0 0, .slice none 0 0, .slice none 0 0])
   exact bodyPost_ret (msg_results H5.out rfl rfl) rfl ⟨TypeD.zero, _, _, _, _, _, _, by first | (rw [Hr.out]; done) | (rw [Hr.out]; rfl), HW.out⟩
  | true =>
   cases tye with
   | true =>
    simp only [Bool.not_true, Bool.false_or, if_true] at Hr
    have hb5 := v2.setCells [.string ⟨#[]⟩, .bool false, .slice none 0 0, .slice none 0 0, .slice none 0 0] rfl
    have hw5 := below_setCells (g := w.heap.size + 1) (Nat.le_succ _) [.string ⟨#[]⟩, .bool false, .slice none 0 0, .slice none 0 0, .slice none 0 0] 0 _ hw3
    obtain ⟨r0, r1, r2, r3, r4⟩ := v2.five
    have g0 := v2.frozen 0
    have g1 := v2.frozen 1
    have g2 := v2.frozen 2
    have g3 := v2.frozen 3
    have g4 := v2.frozen 4
    have hlr := v2.lt
    have H5 := Lib.hid hb5
    have HW := Lib.hid hw5
    clear hb5 hw5 v2
    go_wp2_with fail
    change bodyPost _ _ _ _ _ (setCells w3 (w.heap.size + 1) 0 [.string ⟨#[]⟩, .bool false, .slice none 0 0, .slice none 0 0, .slice none 0 0])
    exact bodyPost_ret (msg_results H5.out rfl rfl) rfl ⟨TypeD.zero, _, _, _, _, _, _, by first | (rw [Hr.out]; done) | (rw [Hr.out]; rfl), HW.out⟩
   | false =>
    simp only [Bool.not_true, Bool.false_or, Bool.false_eq_true, if_false] at Hr
    have hb5 := v2.setCells [.string tyn, .bool false, .slice B1 tyf.length l1, .slice B2 tyg.length l2, .slice B3 tyi.length l3] rfl
    have hw5 := below_setCells (g := w.heap.size + 1) (Nat.le_succ _) [.string tyn, .bool false, .slice B1 tyf.length l1, .slice B2 tyg.length l2, .slice B3 tyi.length l3] 0 _ hw3
    obtain ⟨r0, r1, r2, r3, r4⟩ := v2.five
    have g0 := v2.frozen 0
    have g1 := v2.frozen 1
    have g2 := v2.frozen 2
    have g3 := v2.frozen 3
    have g4 := v2.frozen 4
    have hlr := v2.lt
    have H5 := Lib.hid hb5
    have HW := Lib.hid hw5
    clear hb5 hw5 v2
    go_wp2_with fail
    change bodyPost _ _ _ _ _ (setCells w3 (w.heap.size + 1) 0 [.string tyn, .bool false, .slice B1 tyf.length l1, .slice B2 tyg.length l2, .slice B3 tyi.length l3])
    exact bodyPost_ret (msg_results H5.out rfl rfl) rfl ⟨TypeD.mk tyn false tyf tyg tyi, _, _, _, _, _, _, by first | (rw [Hr.out]; done) | (rw [Hr.out]; rfl), HW.out⟩
 ·have hgb : (gd != 0) = true := by simpa using hg
  rw [if_pos hg] at Hr
  clear hg
  have hb5 := v2.setCells [.string ⟨#[]⟩, .bool false, .slice none 0 0, .slice none 0 0, .slice none 0 0] rfl
  have hw5 := below_setCells (g := w.heap.size + 1) (Nat.le_succ _) [.string ⟨#[]⟩, .bool false, .slice none 0 0, .slice none 0 0, .slice none 0 0] 0 _ hw3
  obtain ⟨r0, r1, r2, r3, r4⟩ := v2.five
  have g0 := v2.frozen 0
  have g1 := v2.frozen 1
  have g2 := v2.frozen 2
  have g3 := v2.frozen 3
  have g4 := v2.frozen 4
  have hlr := v2.lt
  have H5 := Lib.hid hb5
  have HW := Lib.hid hw5
  clear hb5 hw5 v2
  go_wp2_with fail
  change bodyPost _ _ _ _ _ (setCells w3 (w.heap.size + 1) 0 [.string ⟨#[]⟩, .bool false, .slice none 0 0, .slice none 0 0, .slice none 0 0])
  exact bodyPost_ret (msg_results H5.out rfl rfl) rfl ⟨TypeD.zero, _, _, _, _, _, _, by first | (rw [Hr.out]; done) | (rw [Hr.out]; rfl), HW.out⟩
def ThosePost (w : World) (has : Bool) (e : Ending) (w' : World) : Prop := ∃ (A : Option Addr) (n cap : Nat), e = .returned (.slice A n cap) ∧ n ≤ 140737488351232 ∧ (n = 0 ↔ has = false) ∧ Below w.heap.size w w'
theorem hasI_take {ids : List Int} {k : Nat} (h : k < ids.length) (id : Int) : hasI (ids.take (k + 1)) id = (hasI (ids.take k) id || decide (ids[k] = id)) := by
 unfold hasI
 rw [List.take_succ_eq_append_getElem h, List.any_append]
 simp
theorem those_any (S : Nat → Prop) (cs : List Value) (v : ValueD) (id : Int) (w : World) (hr : RVal S w cs v) (hl : v.ids.length ≤ v.l.length) :
  Calls Tryz.prog 57 #[.agg cs.toArray, .int .i64 id] w (ThosePost w (hasI v.ids id)) := by
 obtain ⟨kind, n, s, ids, l⟩ := v
 obtain ⟨I1, d1, I2, d2, rfl, hri, hrl⟩ := hr.parts
 obtain ⟨_, _, _, hic, hib⟩ := hri.form
 obtain ⟨_, _, _, hlc2, hlb2⟩ := hrl.form
 dsimp only [ValueD.ids, ValueD.l] at hl ⊢
 have HI := Lib.hid hri
 have HL := Lib.hid hrl
 obtain ⟨hh, hhe⟩ : ∃ h, h = hasI ids id := ⟨_, rfl⟩
 rw [← hhe]
 have HH := Lib.hid hhe
 obtain ⟨x1, x2⟩ := boxes1 w [.int .i64 kind, .int .i64 n, .string s, .slice I1 ids.length d1, .slice I2 l.length d2] 37
 clear hr hri hrl hhe
 go_enter Tryz.func57, Tryz.ntmps57
 go_wp2_with fail
 go_loopw [5, 10] (fun v i wr => ∃ (k : Nat) (acc : List (List Value)), i = .int .i64 k ∧ k ≤ ids.length ∧ acc.length ≤ k ∧ Hid (acc.length = 0 ↔ hasI (ids.take k) id = false) ∧
   Own (w.heap.size + 1) 37 5 (RFlat fun x => x) NoT wr v acc ∧ Box wr w.heap.size 37 [.int .i64 kind, .int .i64 n, .string s, .slice I1 ids.length d1, .slice I2 l.length d2] ∧ Below w.heap.size w wr) (fun _ i _ => ids.length - (intOf i).toNat)
 case atStart => exact ⟨0, [], rfl, by omega, by simp, (show _ ↔ _ by simp [hasI]), Own.nil_ _ _ _ _ _ _, x1, x2⟩
 case round =>
  obtain ⟨k, acc, rfl, hk, hak, he, hor, hbv, hb⟩ := hrel
  clear x1 x2
  have hor0 := hor
  obtain ⟨R0, p0, rfl, _⟩ := hor0.form
  clear hor0
  by_cases hlt : k < ids.length
  ·have hlk : k < l.length := by omega
   obtain ⟨ig, io, rfl, hSi, hgi⟩ := HI.out.base (by omega)
   obtain ⟨lg, lo, rfl, hSl, hlgw⟩ := HL.out.base (by omega)
   have hci := (HI.out.flat (enc := fun x : Int => [.int .i64 x]) hlt).keep (Keep.of_below hb) hSi
   obtain ⟨es, _, hrx, hlies⟩ := HL.out.lies hlk
   have htk := hasI_take hlt id
   obtain ⟨y, hy⟩ : ∃ y, y = ids[k] := ⟨_, rfl⟩
   obtain ⟨x, hx⟩ : ∃ x, x = l[k] := ⟨_, rfl⟩
   rw [← hy] at hci htk
   rw [← hx] at hrx
   obtain ⟨xk, xn, xs, xi, xl⟩ := x
   obtain ⟨E1, f1, E2, f2, rfl, _, _⟩ := hrx.parts
   have hcl := hlies.keep (Keep.of_below hb) hSl
   have p0 : wr.cell? ⟨ig, io + k, none⟩ = some (.int .i64 y) := by have := hci.at_ 0 rfl; simpa using this
   have q0 : wr.cell? ⟨lg, lo + k * 5, none⟩ = some (.int .i64 xk) := hcl.at_ 0 rfl
   have q1 : wr.cell? ⟨lg, lo + k * 5 + 1, none⟩ = some (.int .i64 xn) := hcl.at_ 1 rfl
   have q2 : wr.cell? ⟨lg, lo + k * 5 + 2, none⟩ = some (.string xs) := hcl.at_ 2 rfl
   have q3 : wr.cell? ⟨lg, lo + k * 5 + 3, none⟩ = some (.slice E1 xi.length f1) := hcl.at_ 3 rfl
   have q4 : wr.cell? ⟨lg, lo + k * 5 + 4, none⟩ = some (.slice E2 xl.length f2) := hcl.at_ 4 rfl
   have hlgl : lg < wr.heap.size := Nat.lt_of_lt_of_le hlgw hb.size
   have hgil : ig < wr.heap.size := Nat.lt_of_lt_of_le hgi hb.size
   have b3 : wr.cell? ⟨w.heap.size, 3, none⟩ = some (.slice (some ⟨ig, io, none⟩) ids.length d1) := hbv.cell 3
   have b4 : wr.cell? ⟨w.heap.size, 4, none⟩ = some (.slice (some ⟨lg, lo, none⟩) l.length d2) := hbv.cell 4
   have hbl := hbv.lt
   have Htk := Lib.hid htk
   clear hci hrx hy hx hlies hcl htk
   by_cases hyi : y = id
   ·subst hyi
    have he2 : Hid ((acc ++ [([.int .i64 xk, .int .i64 xn, .string xs, .slice E1 xi.length f1, .slice E2 xl.length f2] : List Value)]).length = 0 ↔ hasI (ids.take (k + 1)) y = false) := by
     show _ ↔ _
     rw [Htk.out]; simp
    clear he Htk
    go_wp2_with (at_builtin; go_must (refine wl_append _ rfl (.tmp 20) (.tmp 26) rfl sl_vals (RFlat.fair _) rfl rfl (hor.alloc (RFlat.fair _) _) (Src.one (es := [.int .i64 xk, .int .i64 xn, .string xs, .slice E1 xi.length f1, .slice E2 xl.length f2]) (y := ([.int .i64 xk, .int .i64 xn, .string xs, .slice E1 xi.length f1, .slice E2 xl.length f2] : List Value)) rfl (Ones.of_all rfl) rfl (Lies.newAt rfl)) (NoT.lt _) ?_ ?_ ?_))
    ·simp; omega
    ·have := hb.size; simp; omega
    intro v5 w5 ho5 hg5 hv5
    have hw5 := below_grown (hb.alloc hb.size (.cells #[.int .i64 xk, .int .i64 xn, .string xs, .slice E1 xi.length f1, .slice E2 xl.length f2] 37)) hg5 (by have := hb.size; simp; omega) (fun g' h => by have := (hor.lt h).1; omega)
    have hb5 := (hbv.alloc (.cells #[.int .i64 xk, .int .i64 xn, .string xs, .slice E1 xi.length f1, .slice E2 xl.length f2] 37)).grown hg5 (fun e => by have := (hor.lt e).1; omega)
    go_wp2_with fail
    go_roundw
    case rel => exact ⟨k + 1, acc ++ [([.int .i64 xk, .int .i64 xn, .string xs, .slice E1 xi.length f1, .slice E2 xl.length f2] : List Value)], by go_num, by omega, by simp; omega, he2, ho5, hb5, hw5⟩
    case measure => simp [intOf]; omega
   ·have e1 : (y == id) = false := by simpa using hyi
    have he2 : Hid (acc.length = 0 ↔ hasI (ids.take (k + 1)) id = false) := by
     show _ ↔ _
     rw [Htk.out, he.out]; simp [hyi]
    clear he Htk hyi
    go_wp2_with fail
    go_roundw
    case rel => exact ⟨k + 1, acc, by go_num, by omega, by omega, he2, hor, hbv, hb⟩
    case measure => simp [intOf]; omega
  ·have he2 : Hid (acc.length = 0 ↔ hh = false) := by
    show _ ↔ _
    rw [he.out, List.take_of_length_le (by omega), ← HH.out]
   clear he
   go_wp2_with fail
   go_ret
   exact ⟨_, _, _, rfl, by omega, he2.out, hb⟩
end Go.Proofs.YtfidfakcbjoilaaGreatDoor
