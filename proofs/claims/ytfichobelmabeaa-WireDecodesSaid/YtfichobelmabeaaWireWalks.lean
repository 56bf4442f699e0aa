/- The walks of package wire. -/
import Derived.Test.YtfichobelmabeaaProg
import Derived.Test.YtfichobelmabeaaWirePlain
namespace Go.Proofs.Ytfichobelmabeaa
open Go.RowKit

def partCells (p : Part) : List Value := [.int .i64 p.id, .int .i64 p.kind, .int .i64 p.n, .string p.s]
abbrev partV (p : Part) : Value := .agg #[.int .i64 p.id, .int .i64 p.kind, .int .i64 p.n, .string p.s]
def RPart : Rel Part := RFlat partCells

theorem toList_isEmpty (s : ByteArray) : s.toList.isEmpty = decide (s.size = 0) := by
  rw [ByteArray.toList_eq]; obtain ⟨⟨l⟩⟩ := s
  cases l <;> simp [ByteArray.size]

theorem ret_bool {a b : Bool} (h : a = b) : Ending.returned (.bool a) = .returned (.bool b) := by rw [h]
theorem ret_int {k : IntKind} {a b : Int} (h : a = b) : Ending.returned (.int k a) = .returned (.int k b) := by rw [h]

set_option maxRecDepth 100000 in
set_option maxHeartbeats 400000 in
theorem wgood_any (p : Part) (w : World) (hs : p.s.size ≤ maxLen) :
    Calls Try.prog 9 #[partV p] w (Ret w (.bool (goodP p))) := by
  unfold maxLen at hs
  obtain ⟨id, kind, n, s⟩ := p
  go_enter Try.func9, Try.ntmps9
  go_wp2
  all_goals
    go_ret
    refine ⟨ret_bool ?_, by simpa using (Below.refl _ _).alloc (Nat.le_refl _) _⟩
    go_tidy
    rw [Bool.eq_iff_iff]
    simp [goodP, toList_isEmpty] at *
    first | omega | (constructor <;> intro h <;> first | exact ⟨by omega, .inl ⟨by assumption, h⟩⟩ | (rcases h with ⟨_, h | h⟩ <;> first | exact h.2 | omega))

/-! put -/
theorem sl_bytes : SlInfo Try.prog 35 5 1 1 := .mk (z := .int .u8 0) Try.underlying35 (by decide) (by decide) (by kernel_rfl) rfl

theorem or128 (m : Nat) : bits .or .u8 ((m : Int) % 256) 128 = ((m % 128 + 128 : Nat) : Int) := by
  have h : ∀ k : Fin 256, bits .or .u8 (k.val : Int) 128 = ((k.val % 128 + 128 : Nat) : Int) := by decide +kernel
  have := h ⟨m % 256, by omega⟩
  simp only at this
  rw [show ((m : Int) % 256) = ((m % 256 : Nat) : Int) from by omega, this]
  omega

set_option maxRecDepth 100000 in
set_option maxHeartbeats 400000 in
theorem put_any (base : Nat) (T : Nat → Prop) (v : Value) (xs : List UInt8) (n : Nat) (w : World) (hn : n < 18446744073709551616)
    (hown : Own base 5 1 RByte T w v xs) (hT : ∀ g, T g → g < w.heap.size) (hx : xs.length ≤ 1000000) (hb : base ≤ w.heap.size) :
    Calls Try.prog 16 #[v, .int .u64 n] w fun e w' => ∃ v', e = .returned v' ∧ Own base 5 1 RByte T w' v' (xs ++ sev n) ∧ w.grownBy w' v.ownBlock ∧ Newer w v.ownBlock v' := by
  go_enter Try.func16, Try.ntmps16
  go_wp2
  have Hn := Lib.hid hn
  clear hn
  have HT := Lib.hid hT
  clear hT
  go_loopw [0, 1] (fun v1 i wr => ∃ (m : Nat) (ys : List UInt8), i = .int .u64 m ∧ m ≤ n ∧ Hid (ys ++ sev m = xs ++ sev n) ∧ Own base 5 1 RByte T wr v1 ys ∧
      w.grownBy wr v.ownBlock ∧ Newer w v.ownBlock v1) (fun _ i _ => (intOf i).toNat)
  case atStart => exact ⟨n, xs, rfl, Nat.le_refl _, rfl, hown, World.grownBy.refl _ _, .inl rfl⟩
  case round =>
    obtain ⟨m, ys, rfl, hmn, he, ho, hg, hv⟩ := hrel
    have hyl : ys.length ≤ 1000010 := by
      have h1 := congrArg List.length he.out
      have h2 := sev_len10 Hn.out
      simp only [List.length_append] at h1; omega
    have hTr : ∀ g, T g → g < wr.heap.size := fun g hg' => Nat.lt_of_lt_of_le (HT.out g hg') hg.size
    have HTr := Lib.hid hTr
    clear hTr
    by_cases hm : m < 128
    · go_wp2_with (first | (at_builtin; refine wl_append _ rfl (.tmp 15) (.tmp 18) rfl sl_bytes RByte.fair rfl rfl (ho.alloc RByte.fair _) (Src.one (es := [.int .u8 m]) (y := UInt8.ofNat m) rfl (Ones.of_all rfl) ?_ (Lies.new _ _ _)) ?_ ?_ ?_ ?_))
      · show [_] = [_]
        simp; omega
      · intro g hg'; have := HTr.out g hg'; simp; omega
      · simp; omega
      · have := hg.size; simp; omega
      · intro v2 w2 ho2 hg2 hv2
        go_wp2_with fail
        go_ret
        refine ⟨v2, rfl, ?_, grown_via (grown_alloc hg _) hg2 hv, hv.step hv2 hg.size (by simp)⟩
        rw [← he.out, sev_lt hm]
        exact ho2
    · obtain ⟨y, hy⟩ : ∃ y, y = UInt8.ofNat (m % 128 + 128) := ⟨_, rfl⟩
      have Hy := Lib.hid hy
      clear hy
      go_wp2_with (first | (at_builtin; refine wl_append _ rfl (.tmp 7) (.tmp 11) rfl sl_bytes RByte.fair rfl rfl (ho.alloc RByte.fair _) (Src.one (es := [.int .u8 (bits .or .u8 ((m : Int) % 256) 128)]) (y := y) rfl (Ones.of_all rfl) ?_ (Lies.new _ _ _)) ?_ ?_ ?_ ?_))
      · show [_] = [_]
        rw [or128, Hy.out]; simp; omega
      · intro g hg'; have := HTr.out g hg'; simp; omega
      · simp; omega
      · have := hg.size; simp; omega
      · intro v2 w2 ho2 hg2 hv2
        go_wp2_with fail
        go_roundw
        case rel =>
          refine ⟨m / 128, ys ++ [y], by go_num, by omega, ?_, ho2, grown_via (grown_alloc hg _) hg2 hv, hv.step hv2 hg.size (by simp)⟩
          show _ = _
          rw [List.append_assoc, ← he.out, sev_ge hm, Hy.out]; rfl
        case measure => simp [intOf]; omega

theorem put_int (base : Nat) (T : Nat → Prop) (v : Value) (xs : List UInt8) (n : Int) (w : World) (h0 : 0 ≤ n) (hn : n < 18446744073709551616)
    (hown : Own base 5 1 RByte T w v xs) (hT : ∀ g, T g → g < w.heap.size) (hx : xs.length ≤ 1000000) (hb : base ≤ w.heap.size) :
    Calls Try.prog 16 #[v, .int .u64 n] w fun e w' => ∃ v', e = .returned v' ∧ Own base 5 1 RByte T w' v' (xs ++ sev n.toNat) ∧ w.grownBy w' v.ownBlock ∧ Newer w v.ownBlock v' := by
  obtain ⟨m, rfl⟩ := Int.eq_ofNat_of_zero_le h0
  exact put_any base T v xs m w (by omega) hown hT hx hb
end Go.Proofs.Ytfichobelmabeaa
