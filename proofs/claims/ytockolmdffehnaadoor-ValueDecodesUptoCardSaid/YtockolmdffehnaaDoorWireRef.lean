/- The reference's parts walked: IsPart, sevens. -/
import Derived.Test.YtockolmdffehnaaDoorWires
import Derived.Test.YtockolmdffehnaaDoorBase
namespace Go.Proofs.YtockolmdffehnaaDoor
open Go.RowKit

theorem toList_nil (s : ByteArray) : s.toList = [] ↔ s.size = 0 := by
  rw [ByteArray.toList_eq]; obtain ⟨⟨l⟩⟩ := s
  cases l <;> simp [ByteArray.size]
theorem ret_str {a b : ByteArray} (h : a = b) : Ending.returned (.string a) = .returned (.string b) := by rw [h]

set_option maxRecDepth 100000 in
set_option maxHeartbeats 400000 in
theorem isPart_any (p : Part) (w : World) (hs : p.s.size ≤ maxLen) :
    Calls Tryd.prog 62 #[partV p] w (Ret w (.bool (goodP p))) := by
  unfold maxLen at hs
  obtain ⟨id, kind, n, s⟩ := p
  by_cases h0 : kind = 0
  · subst h0
    go_enter Tryd.func62, Tryd.ntmps62
    go_wp2
    all_goals
      go_ret
      refine ⟨ret_bool ?_, by simpa using (Below.refl _ _).alloc (Nat.le_refl _) _⟩
      go_tidy
      rw [Bool.eq_iff_iff]
      simp [goodP, toList_isEmpty, toList_nil, -ByteArray.size_eq_zero_iff] at *
      omega
  · by_cases h1 : kind = 1
    · subst h1
      go_enter Tryd.func62, Tryd.ntmps62
      go_wp2
      all_goals
        go_ret
        refine ⟨ret_bool ?_, by simpa using (Below.refl _ _).alloc (Nat.le_refl _) _⟩
        go_tidy
        rw [Bool.eq_iff_iff]
        simp [goodP] at *
        omega
    · by_cases h2 : kind = 2
      · subst h2
        go_enter Tryd.func62, Tryd.ntmps62
        go_wp2
        all_goals
          go_ret
          refine ⟨ret_bool ?_, by simpa using (Below.refl _ _).alloc (Nat.le_refl _) _⟩
          go_tidy
          rw [Bool.eq_iff_iff]
          simp [goodP] at *
          omega
      · have k0 : (kind == 0) = false := by simpa using h0
        have k1 : (kind == 1) = false := by simpa using h1
        have k2 : (kind == 2) = false := by simpa using h2
        go_enter Tryd.func62, Tryd.ntmps62
        go_wp2
        all_goals
          go_ret
          refine ⟨ret_bool ?_, by simpa using (Below.refl _ _).alloc (Nat.le_refl _) _⟩
          go_tidy
          rw [Bool.eq_iff_iff]
          simp [goodP] at *
          omega


theorem run_string_one (W : World) (b : Int) : (convert 87 9 (.slice (some ⟨W.heap.size, 0, none⟩) 1 1)).run Tryd.prog (W.alloc (.cells #[.int .u8 b] 5)) =
    .ok (.string ⟨#[UInt8.ofNat b.toNat]⟩) (W.alloc (.cells #[.int .u8 b] 5)) := by
  rw [run_convert_bytes_string _ _ _ 5 _ _ _ Tryd.underlying87 Tryd.underlying5 Tryd.underlying9, run_bytesToString _ _ _ _ [b]]
  · rfl
  · have := run_loadCells_list (P := Tryd.prog) (w := W.alloc (.cells #[.int .u8 b] 5)) ⟨W.heap.size, 0, none⟩ [.int .u8 b] (by
      intro j u hj
      match j, hj with
      | 0, hj => simp at hj; subst hj; exact (Lies.new W [.int .u8 b] 5).at_ 0 rfl)
    simpa using this

set_option maxRecDepth 100000 in
set_option maxHeartbeats 400000 in
theorem sevens_nat (n : Nat) (w : World) (hn : n < 4611686018427387904) :
    Calls Tryd.prog 63 #[.int .i64 n] w (Ret w (.string ⟨(sev n).toArray⟩)) := by
  have hst := run_string_one
  go_enter Tryd.func63, Tryd.ntmps63
  go_wp2_with fail
  go_loopw [3, 0] (fun s i wr => ∃ (m : Nat) (sv : ByteArray), i = .int .i64 m ∧ m ≤ n ∧ s = .string sv ∧ Hid (bytes sv ++ sev m = sev n) ∧ Below w.heap.size w wr) (fun _ i _ => (intOf i).toNat)
  case atStart => exact ⟨n, _, rfl, by omega, rfl, rfl, Below.refl _ _⟩
  case round =>
    obtain ⟨m, sv, rfl, hm, rfl, he, hb⟩ := hrel
    have hsv : sv.size ≤ 10 := by
      have h1 := congrArg List.length he.out
      have h2 := sev_len10 (show n < 18446744073709551616 by omega)
      simp only [List.length_append, bytes_len] at h1; omega
    by_cases hlt : m < 128
    · go_wp2_with fail
      go_ret
      refine ⟨ret_str (ba_of ?_), hb.alloc hb.size _⟩
      rw [bytes_append, ← he.out, sev_lt hlt]
    · go_wp2_with fail
      go_roundw
      case rel =>
        refine ⟨m / 128, _, by go_num, by omega, rfl, ?_, hb.alloc hb.size _⟩
        show _ = _
        rw [bytes_append, List.append_assoc, ← he.out, sev_ge (n := m) hlt, UInt8.ofNat_add]; rfl
      case measure => simp [intOf]; omega

/-- A call that returns a string of such bytes, and leaves what was there as it was. -/
def RetStr (w : World) (l : List UInt8) (m : Nat) (e : Ending) (w' : World) : Prop := ∃ s : ByteArray, e = .returned (.string s) ∧ Hid (bytes s = l) ∧ s.size ≤ m ∧ Below w.heap.size w w'
theorem sevens_any (n : Int) (w : World) (h0 : 0 ≤ n) (hn : n < 4398046511104) :
    Calls Tryd.prog 63 #[.int .i64 n] w (RetStr w (sev n.toNat) 6) := by
  obtain ⟨m, rfl⟩ := Int.eq_ofNat_of_zero_le h0
  refine (sevens_nat m w (by omega)).mono ?_
  rintro e w' ⟨rfl, hb⟩
  exact ⟨_, rfl, rfl, sev_len6 (n := m) (by omega), hb⟩
end Go.Proofs.YtockolmdffehnaaDoor
