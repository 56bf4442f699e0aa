/- The walks of package value: Kind, plain, has, Size, small. -/
import Derived.Test.YtfidfakcbjoilaaGreatDoorProg
import Derived.Test.YtfidfakcbjoilaaGreatDoorBase
import Derived.Test.YtfidfakcbjoilaaGreatDoorBookGood
set_option linter.all false
set_option maxRecDepth 100000
set_option maxHeartbeats 8000000
namespace Go.Proofs.YtfidfakcbjoilaaGreatDoor
open Go.RowKit
theorem kind_any (k : Int) (w : World) : Calls Tryz.prog 39 #[.int .i64 k] w (Pur w (.int .i64 (kindOf k))) := by
 go_enter Tryz.func39, Tryz.ntmps39
 by_cases h3 : k = 3
 ·subst h3
  go_wp2
  go_ret
  exact ⟨rfl, rfl⟩
 ·have b3 : (k == 3) = false := by simpa using h3
  by_cases h5 : k = 5
  ·subst h5
   go_wp2
   go_ret
   exact ⟨rfl, rfl⟩
  ·have b5 : (k == 5) = false := by simpa using h5
   have e := Lib.hid (show kindOf k = 0 from by unfold kindOf; rw [if_neg h3, if_neg h5])
   clear h3 h5
   go_wp2
   go_ret
   exact ⟨ret_i (by rw [e.out]), rfl⟩
theorem kind_quiet (k : Int) (w : World) (n : Nat) : Calls Tryz.prog 39 #[.int .i64 k] (w.drewN n) fun e w'' => e = .returned (.int .i64 (kindOf k)) ∧ ∃ m, w'' = w.drewN m :=
 Calls.quiet_of_same (kind_any k _)
theorem plain_any (s : ByteArray) (w : World) (hs : s.size ≤ 9223372036854775807) : Calls Tryz.prog 115 #[.string s] w (Pur w (.bool (plainF s))) := by
 go_enter Tryz.func115, Tryz.ntmps115
 go_wp2_with fail
 go_loop [6] (fun i => ∃ k : Nat, i = .int .i64 k ∧ k ≤ s.size ∧ Hid (((bytes s).take k).all (fun c => decide (c.toNat < 128)) = true)) (fun i => s.size - (intOf i).toNat)
 case atStart => exact ⟨0, rfl, by omega, rfl⟩
 case round =>
  obtain ⟨k, rfl, hk, hn⟩ := hrel
  by_cases hlt : k < s.size
  ·by_cases hc : s[k].toNat < 128
   ·go_wp2_with fail
    go_round
    case rel =>
     refine ⟨k + 1, by go_num, by omega, ?_⟩
     show _ = true
     rw [List.take_succ_eq_append_getElem (show k < (bytes s).length from hlt), List.all_append, hn.out]
     simp only [List.all_cons, List.all_nil, Bool.true_and, Bool.and_true, decide_eq_true_eq]
     exact hc
    case measure => simp [intOf]; omega
   ·have hf : plainF s = false := by
     have : (bytes s).all (fun c => decide (c.toNat < 128)) = false := by
      rw [List.all_eq_false]
      exact ⟨(bytes s)[k]'hlt, List.getElem_mem _, fun h => hc (of_decide_eq_true h)⟩
     rw [plainF, this]; rfl
    have Hf := Lib.hid hf
    clear hf
    have hc2 : 128 ≤ s[k].toNat := by omega
    go_wp2_with fail
    go_ret
    exact ⟨ret_b Hf.out.symm, rfl⟩
  ·have hall : (bytes s).all (fun c => decide (c.toNat < 128)) = true := by
    have := hn.out
    rw [List.take_of_length_le (by rw [bytes_len]; omega)] at this
    exact this
   have Hf := Lib.hid (show plainF s = decide (s.size ≤ 40) from by rw [plainF, hall]; rfl)
   clear hall
   go_wp2_with fail
   go_ret
   exact ⟨ret_b (by rw [Hf.out]; first | rfl | (rw [decide_eq_decide]; omega) | (rw [Bool.eq_iff_iff]; simp; omega)), rfl⟩
theorem has_any (S : Nat → Prop) (v : Value) (l : List Int) (n : Int) (w : World) (hl : RSl 1 8 RInt S w [v] l) : Calls Tryz.prog 85 #[v, .int .i64 n] w (Pur w (.bool (hasI l n))) := by
 obtain ⟨A, cap, rfl, hlc, hlb⟩ := hl.form
 have HL := Lib.hid hl
 clear hl
 go_enter Tryz.func85, Tryz.ntmps85
 go_wp2_with fail
 go_loop [9] (fun i => ∃ k : Nat, i = .int .i64 k ∧ k ≤ l.length ∧ Hid (hasI (l.drop k) n = hasI l n)) (fun i => l.length - (intOf i).toNat)
 case atStart => exact ⟨0, rfl, by omega, rfl⟩
 case round =>
  obtain ⟨k, rfl, hk, he⟩ := hrel
  by_cases hlt : k < l.length
  ·obtain ⟨g, o, rfl, hS, hg⟩ := HL.out.base (by omega)
   have hc := HL.out.flat (enc := fun x : Int => [.int .i64 x]) hlt
   have hd : l.drop k = l[k] :: l.drop (k + 1) := List.drop_eq_getElem_cons hlt
   obtain ⟨y, hye⟩ : ∃ y, y = l[k] := ⟨_, rfl⟩
   rw [← hye] at hc hd
   have q0 : w.cell? ⟨g, o + k, none⟩ = some (.int .i64 y) := by have := hc.at_ 0 rfl; simpa using this
   rw [hd] at he
   have he' : Hid ((decide (y = n) || hasI (l.drop (k + 1)) n) = hasI l n) := by
    show _ = _
    rw [← he.out]; simp [hasI]
   clear hc hd hye he
   by_cases hn : y = n
   ·subst hn
    have Ht := Lib.hid (show hasI l y = true from by rw [← he'.out]; simp)
    clear he'
    go_wp2_with fail
    go_ret
    exact ⟨ret_b Ht.out.symm, rfl⟩
   ·have hne : (y == n) = false := by simpa using hn
    have he2 : Hid (hasI (l.drop (k + 1)) n = hasI l n) := by show _ = _; rw [← he'.out]; simp [hn]
    clear he' hn
    go_wp2_with fail
    go_round
    case rel => exact ⟨k + 1, by go_num, by omega, he2⟩
    case measure => simp [intOf]; omega
  ·have hd : l.drop k = [] := List.drop_eq_nil_of_le (by omega)
   rw [hd] at he
   have Hf := Lib.hid (show hasI l n = false from by rw [← he.out]; rfl)
   clear hd he
   go_wp2_with fail
   go_ret
   exact ⟨ret_b Hf.out.symm, rfl⟩
def Two (w : World) (x y : Value) (e : Ending) (w' : World) : Prop := e = .returned (.tuple #[x, y]) ∧ Below w.heap.size w w'
theorem size_any : ∀ (d : Nat) (S : Nat → Prop) (cs : List Value) (v : ValueD) (w : World), depthV v ≤ d → RVal S w cs v → depthV v ≤ 4611686018427387904 → countV v ≤ 4611686018427387904 →
  Calls Tryz.prog 32 #[.agg cs.toArray] w (Two w (.int .i64 (depthV v)) (.int .i64 (countV v)))
 | 0, _, _, .mk _ _ _ _ _, _, hd, _, _, _ => by rw [depthV] at hd; omega
 | d + 1, S, cs, .mk kind n s ids l, w, hd, hr, hdb, hcb => by
  obtain ⟨I1, d1, I2, d2, rfl, hi, hl⟩ := hr.parts
  have HL := Lib.hid hl
  have IH := Lib.hid (size_any d)
  rw [depthV] at hd hdb ⊢
  rw [countV] at hcb ⊢
  obtain ⟨_, _, _, hlc, hlb⟩ := hl.form
  have hbd : ∀ x ∈ l, depthV x ≤ d ∧ depthV x ≤ 4611686018427387904 ∧ countV x ≤ 4611686018427387904 := fun x hx => by
   have := depthL_mem' hx
   have := countL_mem' hx
   omega
  have HBd := Lib.hid hbd
  clear hr hi hl hbd
  go_enter Tryz.func32, Tryz.ntmps32
  go_wp2_with fail
  go_loopw [4, 5, 13] (fun vd vc i wr => ∃ (k D C : Nat), i = .int .i64 k ∧ k ≤ l.length ∧ vd = .int .i64 D ∧ vc = .int .i64 C ∧ Hid (D = depthL (l.take k)) ∧ Hid (C = countL (l.take k) + 1) ∧ D ≤ 4611686018427387904 ∧ C ≤ 4611686018427387904 ∧
   Below w.heap.size w wr) (fun _ _ i _ => l.length - (intOf i).toNat)
  case atStart => exact ⟨0, 0, 1, rfl, by omega, rfl, rfl, (by show _ = _; simp [depthL]), (by show _ = _; simp [countL]), by omega, by omega, (Below.refl _ _).alloc (Nat.le_refl _) _⟩
  case round =>
   obtain ⟨k, D, C, rfl, hk, rfl, rfl, hD, hC, hD1, hC1, hb⟩ := hrel
   by_cases hlt : k < l.length
   ·obtain ⟨g, o, rfl, hS, hg⟩ := HL.out.base (by omega)
    obtain ⟨es, hes, hr, hc0⟩ := HL.out.lies hlt
    have hc := hc0.keep (Keep.of_below hb) hS
    have h3 := HBd.out l[k] (List.getElem_mem hlt)
    have hDs := depthL_take_succ l k hlt
    have hCs := countL_take_succ l k hlt
    have hDle := depthL_take_le l (k + 1)
    have hCle := countL_take_le l (k + 1)
    obtain ⟨x, hxe⟩ : ∃ x, x = l[k] := ⟨_, rfl⟩
    rw [← hxe] at hr h3 hDs hCs
    have hD2 : Hid (max D (depthV x) = depthL (l.take (k + 1))) := by show _ = _; rw [hDs, hD.out]
    have hC2 : Hid (C + countV x = countL (l.take (k + 1)) + 1) := by show _ = _; rw [hCs, hC.out]; omega
    have hD3 : max D (depthV x) ≤ 4611686018427387904 := by rw [hD2.out]; omega
    have hC3 : C + countV x ≤ 4611686018427387904 := by rw [hC2.out]; omega
    obtain ⟨h31, h32, h33⟩ := h3
    obtain ⟨dx, hdx⟩ : ∃ dx, dx = depthV x := ⟨_, rfl⟩
    obtain ⟨cx, hcx⟩ : ∃ cx, cx = countV x := ⟨_, rfl⟩
    have hcall := fun W (hr : RVal S W es x) => IH.out S es x W h31 hr h32 h33
    rw [← hdx, ← hcx] at hcall
    rw [← hdx] at hD2 hD3
    rw [← hcx] at hC2 hC3
    obtain ⟨xk, xn, xs, xi, xl⟩ := x
    obtain ⟨A1, c1, A2, c2, rfl, -, -⟩ := hr.parts
    have q0 : wr.cell? ⟨g, o + k * 5, none⟩ = some (.int .i64 xk) := hc.at_ 0 rfl
    have q1 : wr.cell? ⟨g, o + k * 5 + 1, none⟩ = some (.int .i64 xn) := hc.at_ 1 rfl
    have q2 : wr.cell? ⟨g, o + k * 5 + 2, none⟩ = some (.string xs) := hc.at_ 2 rfl
    have q3 : wr.cell? ⟨g, o + k * 5 + 3, none⟩ = some (.slice A1 xi.length c1) := hc.at_ 3 rfl
    have q4 : wr.cell? ⟨g, o + k * 5 + 4, none⟩ = some (.slice A2 xl.length c2) := hc.at_ 4 rfl
    have hgl : g < wr.heap.size := Nat.lt_of_lt_of_le hg hb.size
    have hwa := hb.alloc hb.size (.cells #[.int .i64 xk, .int .i64 xn, .string xs, .slice A1 xi.length c1, .slice A2 xl.length c2] 37)
    have Hr := Lib.hid (RVal.fair.keep hr (Keep.of_below hwa))
    have Hcall := Lib.hid hcall
    clear hr hc hc0 hes hxe hdx hcx hDs hCs hDle hCle hcall h31 h32 h33 hD hC
    go_wp2_with fail
    refine (Hcall.out _ Hr.out).mono ?_
    rintro e w1 ⟨rfl, hb1⟩
    have hw1 := below_via hwa hb1 hwa.size
    by_cases hmx : D ≤ dx
    ·have hmm : max D dx = dx := by omega
     rw [hmm] at hD2 hD3
     clear hmm
     go_wp2_with fail
     go_roundw
     case rel => exact ⟨k + 1, dx, C + cx, by go_num, by omega, (by split <;> first | rfl | (congr 1; omega)), by go_num, hD2, hC2, hD3, hC3, hw1⟩
     case measure => simp [intOf]; omega
    ·have hmm : max D dx = D := by omega
     rw [hmm] at hD2 hD3
     clear hmm
     go_wp2_with fail
     go_roundw
     case rel => exact ⟨k + 1, D, C + cx, by go_num, by omega, (by split <;> first | rfl | (congr 1; omega)), by go_num, hD2, hC2, hD3, hC3, hw1⟩
     case measure => simp [intOf]; omega
   ·have hD2 : Hid (D = depthL l) := by show _ = _; rw [hD.out, List.take_of_length_le (by omega)]
    have hC2 : Hid (C = countL l + 1) := by show _ = _; rw [hC.out, List.take_of_length_le (by omega)]
    clear hD hC
    go_wp2_with fail
    go_ret2
    refine ⟨?_, hb⟩
    rw [← hD2.out, ← hC2.out]
    rfl
theorem small_any (S : Nat → Prop) (cs : List Value) (v : ValueD) (w : World) (hr : RVal S w cs v) (hd : depthV v ≤ 4611686018427387904) (hc : countV v ≤ 4611686018427387904) :
  Calls Tryz.prog 52 #[.agg cs.toArray] w (Ret w (.bool (smallF v))) := by
 have Hsz := Lib.hid (fun W (h : RVal S W cs v) => size_any (depthV v) S cs v W (Nat.le_refl _) h hd hc)
 have Hv := Lib.hid (show smallF v = decide (depthV v ≤ 24 ∧ countV v ≤ 400) from rfl)
 obtain ⟨dx, hdx⟩ : ∃ dx, dx = depthV v := ⟨_, rfl⟩
 obtain ⟨cx, hcx⟩ : ∃ cx, cx = countV v := ⟨_, rfl⟩
 rw [← hdx, ← hcx] at Hsz Hv
 rw [← hdx] at hd
 rw [← hcx] at hc
 obtain ⟨kind, n, s, ids, l⟩ := v
 obtain ⟨I1, d1, I2, d2, rfl, _, _⟩ := hr.parts
 have hwa := (Below.refl w.heap.size w).alloc (Nat.le_refl _) (.cells #[.int .i64 kind, .int .i64 n, .string s, .slice I1 ids.length d1, .slice I2 l.length d2] 37)
 have Hr := Lib.hid (RVal.fair.keep hr (Keep.of_below hwa))
 clear hr hdx hcx
 go_enter Tryz.func52, Tryz.ntmps52
 go_wp2_with fail
 refine (Hsz.out _ Hr.out).mono ?_
 rintro e w1 ⟨rfl, hb1⟩
 have hw1 := below_via hwa hb1 hwa.size
 clear hwa hb1 Hr
 by_cases h1 : dx ≤ 24
 ·by_cases h2 : cx ≤ 400
  ·have He := Lib.hid (show smallF (.mk kind n s ids l) = true from by rw [Hv.out]; simp [h1, h2])
   go_wp2_with fail
   go_ret
   exact ⟨ret_b (by rw [He.out] <;> (first | rfl | (simp; omega))), hw1⟩
  ·have He := Lib.hid (show smallF (.mk kind n s ids l) = false from by rw [Hv.out]; simp [h2])
   go_wp2_with fail
   go_ret
   exact ⟨ret_b (by rw [He.out] <;> (first | rfl | (simp; omega))), hw1⟩
 ·have He := Lib.hid (show smallF (.mk kind n s ids l) = false from by rw [Hv.out]; simp [h1])
  go_wp2_with fail
  go_ret
  exact ⟨ret_b (by rw [He.out] <;> (first | rfl | (simp; omega))), hw1⟩
end Go.Proofs.YtfidfakcbjoilaaGreatDoor
