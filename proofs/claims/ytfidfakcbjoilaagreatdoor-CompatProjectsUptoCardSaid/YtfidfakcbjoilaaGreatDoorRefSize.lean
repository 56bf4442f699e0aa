/- The walks of the document's own SizeOf, isSmall, wireKind. -/
import Derived.Test.YtfidfakcbjoilaaGreatDoorValueSmall
import Derived.Test.YtfidfakcbjoilaaGreatDoorRefGood
set_option linter.all false
set_option maxRecDepth 100000
set_option maxHeartbeats 8000000
namespace Go.Proofs.YtfidfakcbjoilaaGreatDoor
open Go.RowKit
theorem wireKind_any (k : Int) (w : World) (h0 : 0 ≤ k) (h5 : k ≤ 5) : Calls Tryz.prog 81 #[.int .i64 k] w (Ret w (.int .i64 (kindOf k))) := by
 have hc : k = 0 ∨ k = 1 ∨ k = 2 ∨ k = 3 ∨ k = 4 ∨ k = 5 := by omega
 clear h0 h5
 rcases hc with rfl | rfl | rfl | rfl | rfl | rfl
 all_goals
  go_enter Tryz.func81, Tryz.ntmps81
  go_wp2_with fail
  go_ret
  exact ⟨rfl, (Below.refl _ _).alloc (Nat.le_refl _) _⟩
theorem sizeOf_any : ∀ (d : Nat) (S : Nat → Prop) (cs : List Value) (v : ValueD) (w : World), depthV v ≤ d → RVal S w cs v → depthV v ≤ 4611686018427387904 → countV v ≤ 4611686018427387904 →
  Calls Tryz.prog 59 #[.agg cs.toArray] w (Two w (.int .i64 (depthV v)) (.int .i64 (countV v)))
 | 0, _, _, .mk _ _ _ _ _, _, hd, _, _, _ => by rw [depthV] at hd; omega
 | d + 1, S, cs, .mk kind n s ids l, w, hd, hr, hdb, hcb => by
  obtain ⟨I1, d1, I2, d2, rfl, hi, hl⟩ := hr.parts
  have HL := Lib.hid hl
  have IH := Lib.hid (sizeOf_any d)
  rw [depthV] at hd hdb ⊢
  rw [countV] at hcb ⊢
  obtain ⟨_, _, _, hlc, hlb⟩ := hl.form
  have hbd : ∀ x ∈ l, depthV x ≤ d ∧ depthV x ≤ 4611686018427387904 ∧ countV x ≤ 4611686018427387904 := fun x hx => by
   have := depthL_mem' hx
   have := countL_mem' hx
   omega
  have HBd := Lib.hid hbd
  have hdb2 : depthL l ≤ 4611686018427387904 := by omega
  clear hr hi hl hbd
  go_enter Tryz.func59, Tryz.ntmps59
  go_wp2_with fail
  go_loopw [4, 5, 13] (fun vd vc i wr => ∃ (k D C : Nat), i = .int .i64 k ∧ k ≤ l.length ∧ vd = .int .i64 D ∧ vc = .int .i64 C ∧ Hid (D = depthL (l.take k) + 1) ∧ Hid (C = countL (l.take k) + 1) ∧ 1 ≤ D ∧ D ≤ 4611686018427387905 ∧ C ≤ 4611686018427387904 ∧
   Below w.heap.size w wr) (fun _ _ i _ => l.length - (intOf i).toNat)
  case atStart => exact ⟨0, 1, 1, rfl, by omega, rfl, rfl, (by show _ = _; simp [depthL]), (by show _ = _; simp [countL]), by omega, by omega, by omega, (Below.refl _ _).alloc (Nat.le_refl _) _⟩
  case round =>
   obtain ⟨k, D, C, rfl, hk, rfl, rfl, hD, hC, hD0, hD1, hC1, hb⟩ := hrel
   by_cases hlt : k < l.length
   ·obtain ⟨g, o, rfl, hS, hg⟩ := HL.out.base (by omega)
    obtain ⟨es, hes, hr, hc0⟩ := HL.out.lies hlt
    have hc := hc0.keep (Keep.of_below hb) hS
    have h3 := HBd.out l[k] (List.getElem_mem hlt)
    have hDs := depthL_take_succ l k hlt
    have hCs := countL_take_succ l k hlt
    have hDle := depthL_take_le l (k + 1)
    have hCle := countL_take_le l (k + 1)
    obtain ⟨x, hxe⟩ : ∃ x, x = l[k] := ⟨_, rfl⟩
    rw [← hxe] at hr h3 hDs hCs
    have hD2 : Hid (max D (depthV x + 1) = depthL (l.take (k + 1)) + 1) := by show _ = _; rw [hDs, hD.out]; omega
    have hC2 : Hid (C + countV x = countL (l.take (k + 1)) + 1) := by show _ = _; rw [hCs, hC.out]; omega
    have hD3 : max D (depthV x + 1) ≤ 4611686018427387905 := by rw [hD2.out]; omega
    have hC3 : C + countV x ≤ 4611686018427387904 := by rw [hC2.out]; omega
    obtain ⟨h31, h32, h33⟩ := h3
    obtain ⟨dx, hdx⟩ : ∃ dx, dx = depthV x := ⟨_, rfl⟩
    obtain ⟨cx, hcx⟩ : ∃ cx, cx = countV x := ⟨_, rfl⟩
    have hcall := fun W (hr : RVal S W es x) => IH.out S es x W h31 hr h32 h33
    rw [← hdx, ← hcx] at hcall
    rw [← hdx] at hD2 hD3
    rw [← hcx] at hC2 hC3
    obtain ⟨xk, xn, xs, xi, xl⟩ := x
    obtain ⟨A1, c1, A2, c2, rfl, -, -⟩ := hr.parts
    have q0 : wr.cell? ⟨g, o + k * 5, none⟩ = some (.int .i64 xk) := hc.at_ 0 rfl
    have q1 : wr.cell? ⟨g, o + k * 5 + 1, none⟩ = some (.int .i64 xn) := hc.at_ 1 rfl
    have q2 : wr.cell? ⟨g, o + k * 5 + 2, none⟩ = some (.string xs) := hc.at_ 2 rfl
    have q3 : wr.cell? ⟨g, o + k * 5 + 3, none⟩ = some (.slice A1 xi.length c1) := hc.at_ 3 rfl
    have q4 : wr.cell? ⟨g, o + k * 5 + 4, none⟩ = some (.slice A2 xl.length c2) := hc.at_ 4 rfl
    have hgl : g < wr.heap.size := Nat.lt_of_lt_of_le hg hb.size
    have hwa := hb.alloc hb.size (.cells #[.int .i64 xk, .int .i64 xn, .string xs, .slice A1 xi.length c1, .slice A2 xl.length c2] 37)
    have Hr := Lib.hid (RVal.fair.keep hr (Keep.of_below hwa))
    have Hcall := Lib.hid hcall
    clear hr hc hc0 hes hxe hdx hcx hDs hCs hDle hCle hcall h31 h32 h33 hD hC
    go_wp2_with fail
    refine (Hcall.out _ Hr.out).mono ?_
    rintro e w1 ⟨rfl, hb1⟩
    have hw1 := below_via hwa hb1 hwa.size
    by_cases hmx : D < dx + 1
    ·have hmm : max D (dx + 1) = dx + 1 := by omega
     rw [hmm] at hD2 hD3
     clear hmm
     go_wp2_with fail
     all_goals first
      | (exfalso; omega)
      | skip
     go_roundw
     case rel => exact ⟨k + 1, dx + 1, C + cx, by go_num, by omega, by go_num, by go_num, hD2, hC2, by omega, hD3, hC3, hw1⟩
     case measure => simp [intOf]; omega
    ·have hmm : max D (dx + 1) = D := by omega
     rw [hmm] at hD2 hD3
     clear hmm
     go_wp2_with fail
     all_goals first
      | (exfalso; omega)
      | skip
     go_roundw
     case rel => exact ⟨k + 1, D, C + cx, by go_num, by omega, rfl, by go_num, hD2, hC2, hD0, hD3, hC3, hw1⟩
     case measure => simp [intOf]; omega
   ·have hD2 : Hid (D = depthL l + 1) := by show _ = _; rw [hD.out, List.take_of_length_le (by omega)]
    have hC2 : Hid (C = countL l + 1) := by show _ = _; rw [hC.out, List.take_of_length_le (by omega)]
    clear hD hC
    go_wp2_with fail
    go_ret2
    refine ⟨?_, hb⟩
    rw [← hD2.out, ← hC2.out]
    rfl
theorem isSmall_any (S : Nat → Prop) (cs : List Value) (v : ValueD) (w : World) (hr : RVal S w cs v) (hd : depthV v ≤ 4611686018427387904) (hc : countV v ≤ 4611686018427387904) :
  Calls Tryz.prog 35 #[.agg cs.toArray] w (Ret w (.bool (smallF v))) := by
 have Hsz := Lib.hid (fun W (h : RVal S W cs v) => sizeOf_any (depthV v) S cs v W (Nat.le_refl _) h hd hc)
 have Hv := Lib.hid (show smallF v = decide (depthV v ≤ 24 ∧ countV v ≤ 400) from rfl)
 obtain ⟨r, hre⟩ : ∃ r, r = smallF v := ⟨_, rfl⟩
 rw [← hre] at Hv ⊢
 obtain ⟨dx, hdx⟩ : ∃ dx, dx = depthV v := ⟨_, rfl⟩
 obtain ⟨cx, hcx⟩ : ∃ cx, cx = countV v := ⟨_, rfl⟩
 rw [← hdx, ← hcx] at Hsz Hv
 rw [← hdx] at hd
 rw [← hcx] at hc
 obtain ⟨kind, n, s, ids, l⟩ := v
 obtain ⟨I1, d1, I2, d2, rfl, _, _⟩ := hr.parts
 have hwa := (Below.refl w.heap.size w).alloc (Nat.le_refl _) (.cells #[.int .i64 kind, .int .i64 n, .string s, .slice I1 ids.length d1, .slice I2 l.length d2] 37)
 have Hr := Lib.hid (RVal.fair.keep hr (Keep.of_below hwa))
 clear hr hdx hcx hre
 go_enter Tryz.func35, Tryz.ntmps35
 go_wp2_with fail
 refine (Hsz.out _ Hr.out).mono ?_
 rintro e w1 ⟨rfl, hb1⟩
 have hw1 := below_via hwa hb1 hwa.size
 clear hwa hb1 Hr
 by_cases h1 : dx < 25
 ·have e1 : decide ((dx : Int) < 25) = true := by simp; omega
  by_cases h2 : cx < 401
  ·have e2 : decide ((cx : Int) < 401) = true := by simp; omega
   have He := Lib.hid (show r = true from by rw [Hv.out]; simp; omega)
   go_wp2_with fail
   go_ret
   exact ⟨by rw [He.out]; first | done | rfl | simp [*], hw1⟩
  ·have e2 : decide ((cx : Int) < 401) = false := by simp; omega
   have He := Lib.hid (show r = false from by rw [Hv.out]; simp; omega)
   go_wp2_with fail
   go_ret
   exact ⟨by rw [He.out]; first | done | rfl | simp [*], hw1⟩
 ·have e1 : decide ((dx : Int) < 25) = false := by simp; omega
  have He := Lib.hid (show r = false from by rw [Hv.out]; simp; omega)
  go_wp2_with fail
  go_ret
  exact ⟨by rw [He.out]; first | done | rfl | simp [*], hw1⟩
end Go.Proofs.YtfidfakcbjoilaaGreatDoor
