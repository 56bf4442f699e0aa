/- (*reader).get walked. -/
import Derived.Test.YtfichobelmabeaaWireWalks
import Derived.Test.YtfichobelmabeaaWireDecPlain
import Derived.Test.YtfichobelmabeaaArith
namespace Go.Proofs.Ytfichobelmabeaa
open Go.RowKit

/-- What get leaves. -/
def GetPost (g : Nat) (s : ByteArray) (bad : Bool) (w : World) (e : Ending) (w' : World) : Prop :=
  ∃ s' : ByteArray, e = .returned (.int .u64 (getF (bytes s)).1) ∧ Hid (bytes s' = (bytes s).drop (getF (bytes s)).2.1) ∧
      Box w' g 42 [.string s', .bool (bad || (getF (bytes s)).2.2)] ∧ w.grownBy w' (some g)

theorem get_fin {g : Nat} {s : ByteArray} {bad b : Bool} {w : World} {k n : Nat} {x : Int} (hbx : Box w g 42 [.string s, .bool bad])
    (he : getGo (bytes s) (6 - k) k n = getF (bytes s)) (h6 : k < 6) (hk : k < (bytes s).length) (hc : (bytes s)[k].toNat < 128) (hn : n < 128 ^ k)
    (hx : x = bits .or .u64 (n : Int) (IntKind.u64.wrap (IntKind.u64.wrap (bits .and .u8 ((bytes s)[k].toNat : Int) 127) * 2 ^ (7 * k))))
    (hb : b = (bad || decide ((bytes s)[k].toNat = 0 ∧ 0 < k))) :
    GetPost g s bad w (.returned (.int .u64 x)) ((w.setCell ⟨g, 1, none⟩ (.bool b)).setCell ⟨g, 0, none⟩ (.string (s.extract (k + 1) s.size))) := by
  have hres := getGo_hit (n := n) h6 hk hc
  rw [he] at hres
  refine ⟨s.extract (k + 1) s.size, ?_, ?_, ?_, ?_⟩
  · rw [hres, hx, or_sev n _ k h6 hn (bytes s)[k].toNat_lt]
    simp only
    rw [Nat.mod_eq_of_lt hc]
  · show _ = _
    rw [hres, bytes_from]
  · rw [hres]
    subst hb
    exact (hbx.set_ 1 _).set_ 0 _
  · exact grown_setCell (p := ⟨g, 0, none⟩) (grown_setCell (p := ⟨g, 1, none⟩) (World.grownBy.refl _ _) (.inl rfl) _) (.inl rfl) _

set_option maxRecDepth 100000 in
set_option maxHeartbeats 1000000 in
theorem get_any (g : Nat) (s : ByteArray) (bad : Bool) (w : World) (_hs : s.size ≤ 20000) (hbx : Box w g 42 [.string s, .bool bad]) :
    Calls Try.prog 18 #[.pointer (some ⟨g, 0, none⟩)] w (GetPost g s bad w) := by
  have c0 : w.cell? ⟨g, 0, none⟩ = some (.string s) := hbx.cell 0
  have c1 : w.cell? ⟨g, 1, none⟩ = some (.bool bad) := hbx.cell 1
  have f0 : w.frozen? ⟨g, 0, none⟩ = false := hbx.frozen 0
  have f1 : w.frozen? ⟨g, 1, none⟩ = false := hbx.frozen 1
  have HB := Lib.hid hbx
  clear hbx
  go_enter Try.func18, Try.ntmps18
  go_wp2_with fail
  go_loop [3, 4] (fun v i => ∃ (k n : Nat), i = .int .i64 k ∧ k ≤ 6 ∧ v = .int .u64 n ∧ Hid (n < 128 ^ k) ∧ Hid (getGo (bytes s) (6 - k) k n = getF (bytes s))) (fun _ i => 6 - (intOf i).toNat)
  case atStart => exact ⟨0, 0, rfl, by omega, rfl, (by decide : 0 < 128 ^ 0), rfl⟩
  case round =>
    obtain ⟨k, n, rfl, hk, rfl, hn, he⟩ := hrel
    by_cases hlt : k < 6 ∧ k < s.size
    · obtain ⟨h6, hks⟩ := hlt
      by_cases hc : s[k].toNat < 128
      · cases bad
        · go_wp2_with fail
          all_goals
            go_ret
            exact get_fin (n := n) HB.out he.out h6 hks hc hn.out (by first | rfl | (rw [show (bytes s)[k].toNat = 0 from by assumption]; rfl)) (by rw [show (bytes s)[k].toNat = s[k].toNat from rfl, eq_comm, Bool.eq_iff_iff]; simp only [Bool.false_or, Bool.or_eq_true, decide_eq_true_eq, Bool.true_or, beq_iff_eq, Bool.false_eq_true, iff_false, iff_true]; omega)
        · go_wp2_with fail
          all_goals
            go_ret
            exact get_fin (n := n) HB.out he.out h6 hks hc hn.out (by first | rfl | (rw [show (bytes s)[k].toNat = 0 from by assumption]; rfl) | (rw [show (bytes s)[0].toNat = 0 from by assumption]; rfl)) (by first | (rw [show (bytes s)[k].toNat = s[k].toNat from rfl]; simp [*]; done) | (rw [show (bytes s)[0].toNat = s[0].toNat from rfl]; simp [*]; done) | simp)
      · go_wp2_with fail
        go_round
        case rel =>
          have hres := getGo_on (n := n) h6 hks hc
          refine ⟨k + 1, n + s[k].toNat % 128 * 128 ^ k, by go_num, by omega, by rw [or_sev n _ k h6 hn.out s[k].toNat_lt], ?_, ?_⟩
          · have := hn.out
            show _ < _
            rw [Nat.pow_succ]
            have h3 : (s[k].toNat % 128) * 128 ^ k ≤ 127 * 128 ^ k := Nat.mul_le_mul_right _ (by omega)
            omega
          · show _ = _
            rw [← he.out, hres]; rfl
        case measure => simp [intOf]; omega
    · have hres := getGo_end (s := bytes s) (n := n) hk hlt
      rw [he.out] at hres
      have Hres := Lib.hid hres
      clear hres
      have fin : GetPost g s bad w (.returned (.int .u64 0)) (w.setCell ⟨g, 1, none⟩ (.bool true)) := by
        refine ⟨s, ?_, ?_, ?_, ?_⟩
        · rw [Hres.out]; rfl
        · show _ = _
          rw [Hres.out]; rfl
        · rw [Hres.out]; simpa using HB.out.set_ 1 (.bool true)
        · exact grown_setCell (p := ⟨g, 1, none⟩) (World.grownBy.refl _ _) (.inl rfl) _
      have Fin := Lib.hid fin
      clear fin
      by_cases h6 : k < 6
      · go_wp2_with fail
        all_goals
          go_ret
          exact Fin.out
      · go_wp2_with fail
        all_goals
          go_ret
          exact Fin.out
end Go.Proofs.Ytfichobelmabeaa
