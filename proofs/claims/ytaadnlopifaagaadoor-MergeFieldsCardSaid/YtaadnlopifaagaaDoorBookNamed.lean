/- The walks of package book: Named, and the search in texts that it takes. None of them touches memory. -/
import Derived.Test.YtaadnlopifaagaaDoorBookWalks
namespace Go.Proofs.YtaadnlopifaagaaDoor
open Go.RowKit

/-- A call that returns v, and leaves the world alone. -/
def Pur (w : World) (v : Value) (e : Ending) (w' : World) : Prop := e = .returned v ∧ w' = w
theorem Pur.ret {w : World} {v : Value} {e : Ending} {w' : World} (h : Pur w v e w') : Ret w v e w' := ⟨h.1, h.2 ▸ Below.refl _ _⟩
theorem RSl.drewN {α : Type} {sz by_ : Nat} {R : Rel α} (hR : Fair R) {S : Nat → Prop} {w : World} {cs : List Value} {x : List α} (h : RSl sz by_ R S w cs x) (n : Nat) : RSl sz by_ R S (w.drewN n) cs x := (RSl.fair hR).keep h (Keep.drewN S w n)

set_option maxRecDepth 100000 in
set_option maxHeartbeats 1000000 in
theorem indexS_any (S : Nat → Prop) (v : Value) (l : List ByteArray) (x : ByteArray) (w : World) (hl : RSl 1 16 RStr S w [v] l) :
    Calls Tryd.prog 37 #[v, .string x] w (Pur w (.int .i64 (idxS l x))) := by
  obtain ⟨A, cap, rfl, hlc, hlb⟩ := hl.form
  have HL := Lib.hid hl
  clear hl
  go_enter Tryd.func37, Tryd.ntmps37
  go_wp2_with fail
  go_loop [8] (fun i => ∃ k : Nat, i = .int .i64 k ∧ k ≤ l.length ∧ Hid (∀ j (hj : j < l.length), j < k → l[j] ≠ x)) (fun i => l.length - (intOf i).toNat)
  case atStart => exact ⟨0, rfl, by omega, (fun j _ hj => absurd hj (by omega) : ∀ j (hj : j < l.length), j < 0 → l[j] ≠ x)⟩
  case round =>
    obtain ⟨k, rfl, hk, hn⟩ := hrel
    by_cases hlt : k < l.length
    · obtain ⟨g, o, es, rfl, hS, hg, hes, hr, hc⟩ := HL.out.at_ hlt
      obtain ⟨y, hye⟩ : ∃ y, y = l[k] := ⟨_, rfl⟩
      rw [← hye] at hr
      have hr' : es = [.string y] := hr
      subst hr'
      have q0 : w.cell? ⟨g, o + k * 1, none⟩ = some (.string y) := hc.at_ 0 rfl
      rw [Nat.mul_one] at q0
      have Hye := Lib.hid hye
      clear hr hc hye hes
      by_cases he : x = y
      · subst he
        have hi := idxS_hit hlt Hye.out.symm (fun j hj => hn.out j (by omega) hj)
        have Hi := Lib.hid hi
        clear hi
        go_wp2_with fail
        go_ret
        exact ⟨ret_i Hi.out.symm, rfl⟩
      · have hne : (x.toList == y.toList) = false := by rw [ba_eq]; simpa using he
        go_wp2_with fail
        go_round
        case rel =>
          refine ⟨k + 1, by go_num, by omega, ?_⟩
          show ∀ j (hj : j < l.length), j < k + 1 → l[j] ≠ x
          intro j hj hjk
          by_cases hjk' : j < k
          · exact hn.out j hj hjk'
          · have : j = k := by omega
            subst this
            rw [← Hye.out]; exact fun h => he h.symm
        case measure => simp [intOf]; omega
    · have hi := idxS_none (l := l) (x := x) (fun j hj => hn.out j hj (by omega))
      have Hi := Lib.hid hi
      clear hi
      go_wp2_with fail
      go_ret
      exact ⟨ret_i Hi.out.symm, rfl⟩

set_option maxRecDepth 100000 in
theorem containsS_any (S : Nat → Prop) (v : Value) (l : List ByteArray) (x : ByteArray) (w : World) (hl : RSl 1 16 RStr S w [v] l) :
    Calls Tryd.prog 23 #[v, .string x] w (Pur w (.bool (hasS l x))) := by
  have HL := Lib.hid hl
  clear hl
  go_enter Tryd.func23, Tryd.ntmps23
  go_wp2_with fail
  refine (indexS_any S v l x _ HL.out).mono ?_
  rintro e w1 ⟨rfl, rfl⟩
  have Hi := Lib.hid (idxS_has l x)
  go_wp2_with fail
  go_ret
  exact ⟨ret_b (by first | exact Hi.out | (rw [← Hi.out]; simp)), rfl⟩

/-- The variable book.words reads as the words. -/
def Words (w : World) : Prop := ∃ v, w.cell? ⟨0, 0, none⟩ = some v ∧ RSl 1 16 RStr (fun _ => True) w [v] wordsL
theorem Words.below {w w' : World} (h : Words w) (hb : Below w.heap.size w w') : Words w' := by
  obtain ⟨v, hc, hr⟩ := h
  refine ⟨v, ?_, (RSl.fair RStr.fair).below hr hb⟩
  rw [World.cell?_of_block (w := w) (hb.block _ (World.block_lt_of_cell? w _ hc))]
  exact hc
theorem Words.drewN {w : World} (h : Words w) (n : Nat) : Words (w.drewN n) := h.below ⟨rfl, rfl, rfl, Nat.le_refl _, fun _ _ => rfl⟩
theorem Words.drew {w : World} (h : Words w) : Words w.drew := h.below ⟨rfl, rfl, rfl, Nat.le_refl _, fun _ _ => rfl⟩

set_option maxRecDepth 100000 in
set_option maxHeartbeats 1000000 in
theorem named_any (s : ByteArray) (w : World) (hs : s.size ≤ 9223372036854775807) (hw : Words w) :
    Calls Tryd.prog 17 #[.string s] w (Pur w (.bool (namedF s))) := by
  obtain ⟨v, hv, hr⟩ := hw
  have HR := Lib.hid hr
  have hgl := World.block_lt_of_cell? w _ hv
  clear hr
  go_enter Tryd.func17, Tryd.ntmps17
  go_wp2_with fail
  go_loop [6] (fun i => ∃ k : Nat, i = .int .i64 k ∧ k ≤ s.size ∧ Hid (((bytes s).take k).all (fun c => decide (97 ≤ c.toNat ∧ c.toNat ≤ 122)) = true)) (fun i => s.size - (intOf i).toNat)
  case atStart => exact ⟨0, rfl, by omega, rfl⟩
  case round =>
    obtain ⟨k, rfl, hk, hn⟩ := hrel
    by_cases hlt : k < s.size
    · by_cases hc : 97 ≤ s[k].toNat ∧ s[k].toNat ≤ 122
      · obtain ⟨hc1, hc2⟩ := hc
        go_wp2_with fail
        go_round
        case rel =>
          refine ⟨k + 1, by go_num, by omega, ?_⟩
          show _ = true
          rw [List.take_succ_eq_append_getElem (show k < (bytes s).length from hlt), List.all_append, hn.out]
          simp only [List.all_cons, List.all_nil, Bool.true_and, Bool.and_true, decide_eq_true_eq]
          exact ⟨hc1, hc2⟩
        case measure => simp [intOf]; omega
      · have hf : namedF s = false := by
          have : (bytes s).all (fun c => decide (97 ≤ c.toNat ∧ c.toNat ≤ 122)) = false := by
            rw [List.all_eq_false]
            exact ⟨(bytes s)[k]'hlt, List.getElem_mem _, fun h => hc (of_decide_eq_true h)⟩
          rw [namedF, this]; rfl
        have Hf := Lib.hid hf
        clear hf
        by_cases hc1 : s[k].toNat < 97
        · go_wp2_with fail
          go_ret
          exact ⟨ret_b Hf.out.symm, rfl⟩
        · have hc2 : 122 < s[k].toNat := by omega
          go_wp2_with fail
          go_ret
          exact ⟨ret_b Hf.out.symm, rfl⟩
    · have hks : k = s.size := by omega
      have hall : (bytes s).all (fun c => decide (97 ≤ c.toNat ∧ c.toNat ≤ 122)) = true := by
        have := hn.out
        rw [List.take_of_length_le (by rw [bytes_len]; omega)] at this
        exact this
      have hf : namedF s = (decide (1 ≤ s.size ∧ s.size ≤ 12) && !hasS wordsL s) := by rw [namedF, hall]; rfl
      have Hf := Lib.hid hf
      clear hf hall
      by_cases h1 : 1 ≤ s.size ∧ s.size ≤ 12
      · obtain ⟨h1, h2⟩ := h1
        have hb2 : Hid (namedF s = !hasS wordsL s) := by show _ = _; rw [Hf.out]; simp [h1, h2]
        go_wp2_with fail
        refine (containsS_any _ v wordsL s _ HR.out).mono ?_
        rintro e w1 ⟨rfl, rfl⟩
        go_wp2_with fail
        go_ret
        exact ⟨ret_b hb2.out.symm, rfl⟩
      · have hb2 : Hid (namedF s = false) := by show _ = _; rw [Hf.out]; simp only [decide_eq_false h1, Bool.false_and]
        by_cases h0 : 1 ≤ s.size
        · have h3 : 12 < s.size := by omega
          go_wp2_with fail
          go_ret
          exact ⟨ret_b hb2.out.symm, rfl⟩
        · have h3 : s.size = 0 := by omega
          go_wp2_with fail
          go_ret
          exact ⟨ret_b hb2.out.symm, rfl⟩
/-- The same, in a region that draws. -/
theorem named_quiet (s : ByteArray) (w : World) (n : Nat) {r : Bool} (hr : namedF s = r) (hs : s.size ≤ 9223372036854775807) (hw : Words w) :
    Calls Tryd.prog 17 #[.string s] (w.drewN n) fun e w'' => e = .returned (.bool r) ∧ ∃ m, w'' = w.drewN m :=
  Calls.quiet_of_same (by subst hr; exact named_any s _ hs (hw.drewN n))
theorem number_pur (n : Int) (w : World) : Calls Tryd.prog 35 #[.int .i64 n] w (Pur w (.bool (decide (1 ≤ n ∧ n ≤ 30)))) := by
  go_enter Tryd.func35, Tryd.ntmps35
  go_wp2
  all_goals
    go_ret
    refine ⟨ret_b ?_, rfl⟩
    go_tidy
    simp at *
    omega
theorem number_quiet (x : Int) (w : World) (n : Nat) {r : Bool} (hr : decide (1 ≤ x ∧ x ≤ 30) = r) :
    Calls Tryd.prog 35 #[.int .i64 x] (w.drewN n) fun e w'' => e = .returned (.bool r) ∧ ∃ m, w'' = w.drewN m :=
  Calls.quiet_of_same (by subst hr; exact number_pur x _)
end Go.Proofs.YtaadnlopifaagaaDoor
