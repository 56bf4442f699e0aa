/- The reference's seven walked. -/
import Derived.Test.YtockolmdffehnaaDoorWireRef
import Derived.Test.YtockolmdffehnaaDoorBase
import Derived.Deep.RegionHeld3
namespace Go.Proofs.YtockolmdffehnaaDoor
open Go.RowKit

/-- What seven answers. -/
def sevF (s : List UInt8) : Nat × Nat := if (getF s).2.2 then (0, 0) else ((getF s).1, (getF s).2.1)

theorem take_iff {s : List UInt8} {r m : Nat} {b : Bool} (h : getF s = (r, m, b)) : sev r = s.take m ↔ b = false := by
  have hr := getF_lt s
  rw [h] at hr
  constructor
  · intro he
    have hs : s = sev r ++ s.drop m := by rw [he, List.take_append_drop]
    have := getF_sev hr hs
    rw [h] at this
    injection this with _ h2
    injection h2
  · rintro rfl
    obtain ⟨hs, _⟩ := getF_only h
    exact List.append_cancel_right (hs.symm.trans (List.take_append_drop m s).symm)

set_option maxRecDepth 100000 in
set_option maxHeartbeats 1000000 in
theorem seven_any (s : ByteArray) (w : World) (hs : s.size ≤ 20000) :
    Calls Tryd.prog 71 #[.string s] w fun e w' => e = .returned (.tuple #[.int .i64 (sevF (bytes s)).1, .int .i64 (sevF (bytes s)).2]) ∧ Below w.heap.size w w' := by
  go_enter Tryd.func71, Tryd.ntmps71
  go_wp2_with fail
  go_loop [4, 5, 6] (fun v b i => ∃ (k n p : Nat), i = .int .i64 k ∧ k ≤ 6 ∧ v = .int .i64 n ∧ b = .int .i64 p ∧ Hid (p = 128 ^ k) ∧ p ≤ 4398046511104 ∧ n < p ∧ Hid (getGo (bytes s) (6 - k) k n = getF (bytes s))) (fun _ _ i => 6 - (intOf i).toNat)
  case atStart => exact ⟨0, 0, 1, rfl, by omega, rfl, rfl, rfl, by omega, by omega, rfl⟩
  case round =>
    obtain ⟨k, n, p, rfl, hk, rfl, rfl, hpk, hp, hn, he⟩ := hrel
    by_cases hlt : k < 6 ∧ k < s.size
    · obtain ⟨h6, hks⟩ := hlt
      have hp5 : p ≤ 34359738368 := by
        have : 128 ^ k ≤ 128 ^ 5 := Nat.pow_le_pow_right (by decide) (by omega)
        have := hpk.out; omega
      obtain ⟨c, hc⟩ : ∃ c, c = s[k].toNat := ⟨_, rfl⟩
      have hc256 : c < 256 := by rw [hc]; exact s[k].toNat_lt
      obtain ⟨q, hq⟩ : ∃ q, q = c % 128 * p := ⟨_, rfl⟩
      have hql : q ≤ 127 * p := by rw [hq]; exact Nat.mul_le_mul_right _ (by omega)
      have hidx : ((s[k].toNat : Nat) : Int) = (c : Int) := by rw [hc]
      have hmul : ((c : Int) % 128) * (p : Int) = (q : Int) := by rw [hq]; simp
      have Hc := Lib.hid hc
      have Hq := Lib.hid hq
      clear hc hq
      have Hce := Lib.hid (show (bytes s)[k] = s[k] from rfl)
      by_cases hc128 : c < 128
      · have hg := getGo_hit (s := bytes s) (n := n) h6 (show k < (bytes s).length from hks) (by rw [Hce.out, ← Hc.out]; exact hc128)
        rw [he.out, Hce.out, ← Hc.out] at hg
        have hq : n + c * 128 ^ k = n + q := by rw [Hq.out, hpk.out, Nat.mod_eq_of_lt hc128]
        rw [hq] at hg
        have ht := take_iff hg
        have Hg := Lib.hid hg
        have Ht := Lib.hid ht
        clear hg ht hq
        go_wp2_with fail
        have hk1 : (k : Int) + 1 ≤ s.size := by omega
        have hk0 : (0 : Int) ≤ (k : Int) + 1 := by omega
        have hkw : IntKind.i64.wrap ((k : Int) + 1) = (k : Int) + 1 := by rw [IntKind.wrap_i64]; omega
        go_region_held3 (fun _ => True) (exact trivial)
          (first
            | (go_at_call 63; go_must (refine (sevens_any _ _ (by omega) (by omega)).mono ?_); rintro e w4 ⟨s2, rfl, hs2, hs2l, hb4⟩))
        have hcmp : (s2.toList == (s.extract 0 (k + 1)).toList) = !decide (c = 0 ∧ 0 < k) := by
          rw [ByteArray.toList_eq, ByteArray.toList_eq, show s2.data.toList = sev (n + q) from hs2.out.trans (by congr 1), show (s.extract 0 (k + 1)).data.toList = (bytes s).take (k + 1) from bytes_to s (k + 1)]
          rw [Bool.eq_iff_iff, beq_iff_eq, Ht.out]
          cases decide (c = 0 ∧ 0 < k) <;> simp
        have hb : Below w.heap.size w w4 := below_via (below_drew (Below.refl w.heap.size w)) hb4 (Nat.le_refl _)
        by_cases hz : decide (c = 0 ∧ 0 < k) = true
        · rw [hz] at hcmp
          have hcm : (!(s2.toList == (s.extract 0 (k + 1)).toList)) = true := by rw [hcmp]; rfl
          rw [hcm]
          clear hcmp hcm
          have hr : sevF (bytes s) = (0, 0) := by rw [sevF, Hg.out, if_pos hz]
          have Hr := Lib.hid hr
          clear hr
          go_wp2_with fail
          go_ret2
          exact ⟨by rw [Hr.out]; rfl, hb⟩
        · simp only [Bool.not_eq_true] at hz
          rw [hz] at hcmp
          have hcm : (!(s2.toList == (s.extract 0 (k + 1)).toList)) = false := by rw [hcmp]; rfl
          rw [hcm]
          clear hcmp hcm
          have hr : sevF (bytes s) = (n + q, k + 1) := by rw [sevF, Hg.out, if_neg (by simp [hz])]
          have Hr := Lib.hid hr
          clear hr
          go_wp2_with fail
          go_ret2
          exact ⟨by rw [Hr.out]; rfl, hb⟩
      · go_wp2_with fail
        go_round
        case rel =>
          have hg := getGo_on (s := bytes s) (n := n) h6 (show k < (bytes s).length from hks) (by rw [Hce.out, ← Hc.out]; exact hc128)
          rw [he.out, Hce.out, ← Hc.out] at hg
          refine ⟨k + 1, n + q, p * 128, by go_num, by omega, by go_num, by go_num, ?_, by omega, by omega, ?_⟩
          · show _ = _
            rw [Nat.pow_succ, hpk.out]
          · show _ = _
            rw [hg, Hq.out, hpk.out]
        case measure => simp [intOf]; omega
    · go_wp2_with fail
      all_goals
        go_ret2
        refine ⟨?_, Below.refl _ _⟩
        have hres := getGo_end (s := bytes s) (n := n) hk hlt
        rw [he.out] at hres
        simp [sevF, hres]
end Go.Proofs.YtockolmdffehnaaDoor
