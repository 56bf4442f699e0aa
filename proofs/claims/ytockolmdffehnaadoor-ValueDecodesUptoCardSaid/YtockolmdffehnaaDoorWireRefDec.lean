/- The reference's DecodeParts walked. -/
import Derived.Test.YtockolmdffehnaaDoorWireSeven
import Derived.Test.YtockolmdffehnaaDoorWires
namespace Go.Proofs.YtockolmdffehnaaDoor
open Go.RowKit

theorem bytes_mid (s : ByteArray) (a n : Nat) (_h : a + n ≤ s.size) : bytes (s.extract a (a + n)) = ((bytes s).drop a).take n := by
  rw [bytes_extract, Nat.add_sub_cancel_left]

set_option maxRecDepth 100000 in
set_option maxHeartbeats 1000000 in
theorem decodeParts_any (s : ByteArray) (w : World) (hs : s.size ≤ maxLen) :
    Calls Tryd.prog 53 #[.string s] w (DecPost w (decF (bytes s))) := by
  unfold maxLen at hs
  by_cases hlong : 20000 < s.size
  · go_enter Tryd.func53, Tryd.ntmps53
    go_wp2_with fail
    go_ret2
    have : decF (bytes s) = ([], 7) := by rw [decF, if_pos (show 20000 < (bytes s).length from hlong)]
    rw [this]
    exact ⟨_, rfl, RSl.nil_, Below.refl _ _, by simp, by simp⟩
  · have hd : decF (bytes s) = decL (bytes s).length (bytes s) [] := by rw [decF, if_neg (show ¬ 20000 < (bytes s).length from hlong)]
    have Hd := Lib.hid hd
    clear hd
    go_enter Tryd.func53, Tryd.ntmps53
    go_wp2_with fail
    go_loopw [4, 5] (fun v i wr => ∃ (k : Nat) (acc : List Part), i = .int .i64 k ∧ k ≤ s.size ∧ Own w.heap.size 70 4 RPart NoT wr v acc ∧
        Hid (decL ((bytes s).drop k).length ((bytes s).drop k) acc = decF (bytes s)) ∧ acc.length + (s.size - k) ≤ 20000 ∧ (∀ p ∈ acc, p.s.size ≤ 20000) ∧ Below w.heap.size w wr) (fun _ i _ => s.size - (intOf i).toNat)
    case atStart => exact ⟨0, [], rfl, Nat.zero_le _, Own.nil_ _ _ _ _ _ _, by rw [Hd.out]; rfl, by simp; omega, by simp, Below.refl _ _⟩
    case round =>
      obtain ⟨k, acc, rfl, hk, ho, he, hacc, hps, hb⟩ := hrel
      by_cases hlt : k < s.size
      · have hrne : (bytes s).drop k ≠ [] := by
          intro h
          have := congrArg List.length h
          simp only [List.length_drop, bytes_len, List.length_nil] at this; omega
        have hk0 : (k : Int) ≤ s.size := by omega
        have bad : stepD ((bytes s).drop k) = none → ∀ W, Below w.heap.size w W → DecPost w (decF (bytes s)) (.returned (.tuple #[.slice none 0 0, .int .i64 1])) W := by
          intro h W hw2
          rw [← he.out, decL_stop hrne h]
          exact ⟨_, rfl, RSl.nil_, hw2, by simp, by simp⟩
        have Bad := Lib.hid bad
        clear bad
        go_wp2_with fail
        refine (seven_any (s.extract k s.size) _ (by simp; omega)).mono ?_
        rw [bytes_from]
        rintro e w1 ⟨rfl, hb1⟩
        have hkey := getF_lt ((bytes s).drop k)
        have hm1 := getF_len ((bytes s).drop k)
        have hp1 := getF_bad ((bytes s).drop k)
        have hw1 : Below w.heap.size w w1 := below_via hb hb1 hb.size
        have ho1 := ho.below RPart.fair hb1
        clear ho hb hb1
        rw [sevF]
        simp only [List.length_drop, bytes_len] at hm1
        generalize hr1 : getF ((bytes s).drop k) = r1 at *
        obtain ⟨key, m1, b1⟩ := r1
        simp only at hkey hm1 hp1 ⊢
        have HR1 := Lib.hid hr1
        clear hr1
        by_cases hb1 : b1 = true
        · subst hb1
          have hB := Bad.out (by rw [stepD_eq HR1.out rfl, if_pos (.inl rfl)]) w1 hw1
          have HB := Lib.hid hB
          clear hB
          go_wp2_with fail
          go_ret2
          exact HB.out
        · simp only [Bool.not_eq_true] at hb1
          subst hb1
          have hp1 := hp1 rfl
          have hm1n : ¬ (m1 : Int) = 0 := by omega
          have hk1 : (k : Int) + m1 ≤ s.size := by omega
          have hk2 : (0 : Int) ≤ (k : Int) + m1 := by omega
          go_wp2_with fail
          refine (seven_any (s.extract (k + m1) s.size) _ (by simp; omega)).mono ?_
          rw [bytes_from]
          rintro e w2 ⟨rfl, hb2⟩
          have hdd : (bytes s).drop (k + m1) = ((bytes s).drop k).drop m1 := by rw [List.drop_drop]
          have hn := getF_lt ((bytes s).drop (k + m1))
          have hm2 := getF_len ((bytes s).drop (k + m1))
          have hp2 := getF_bad ((bytes s).drop (k + m1))
          have hw2 : Below w.heap.size w w2 := below_via hw1 hb2 hw1.size
          have ho2 := ho1.below RPart.fair hb2
          clear ho1 hw1 hb2
          rw [sevF]
          simp only [List.length_drop, bytes_len] at hm2
          generalize hr2 : getF ((bytes s).drop (k + m1)) = r2 at *
          obtain ⟨n, m2, b2⟩ := r2
          simp only at hn hm2 hp2 ⊢
          rw [hdd] at hr2
          have hst : stepD ((bytes s).drop k) = _ := stepD_eq HR1.out hr2
          clear hr2 hdd
          have Hst := Lib.hid hst
          clear hst
          by_cases hb2 : b2 = true
          · subst hb2
            have hB := Bad.out (by rw [Hst.out, if_pos (.inr rfl)]) w2 hw2
            have HB := Lib.hid hB
            clear hB
            go_wp2_with fail
            go_ret2
            exact HB.out
          · simp only [Bool.not_eq_true] at hb2
            subst hb2
            have hp2 := hp2 rfl
            have hm2n : ¬ (m2 : Int) = 0 := by omega
            have hst2 := Hst.out
            rw [if_neg (by simp), List.drop_drop, List.drop_drop] at hst2
            have hlen : ((bytes s).drop (k + (m1 + m2))).length = s.size - (k + (m1 + m2)) := by rw [List.length_drop, bytes_len]
            have Hst2 := Lib.hid hst2
            have Hlen := Lib.hid hlen
            clear hst2 Hst hlen
            have hK : k + (m1 + m2) ≤ s.size := by omega
            by_cases hk4 : key % 4 = 0
            · have hk4' : (key : Int) % 4 = 0 := by omega
              by_cases hn2 : n % 2 = 0
              · have hn2' : (n : Int) % 2 = 0 := by omega
                have hst3 := Hst2.out
                rw [if_pos hk4, zag_even hn2] at hst3
                obtain ⟨p, hp⟩ : ∃ p : Part, p = ⟨(key : Int) / 4, 0, (n : Int) / 2, ⟨#[]⟩⟩ := ⟨_, rfl⟩
                have hpl : p.s.size ≤ 20000 := by rw [hp]; show ByteArray.size _ ≤ _; first | exact Nat.zero_le _ | (rw [ByteArray.size_extract]; omega)
                rw [← hp] at hst3
                have Hst3 := Lib.hid hst3
                clear hst3
                go_wp2_with fail
                refine (isPart_any ⟨(key : Int) / 4, 0, (n : Int) / 2, ⟨#[]⟩⟩ _ (by rw [← hp]; unfold maxLen; omega)).mono ?_
                rintro e w3 ⟨rfl, hb3⟩
                have hbP3 : Box w3 w2.heap.size 70 (partCells p) := by rw [hp]; exact (Box.new w2 _ _).below hb3 (by simp)
                have ho3 := (ho2.alloc RPart.fair _).below RPart.fair hb3
                have hw3 := below_via (hw2.alloc hw2.size _) hb3 (by have := hw2.size; simp; omega)
                have hsz3 := hb3.size
                simp at hsz3
                clear hb3 ho2 hw2
                rw [← hp]
                clear hp
                have q0 : w3.cell? ⟨w2.heap.size, 0, none⟩ = some (.int .i64 p.id) := hbP3.cell 0
                have q1 : w3.cell? ⟨w2.heap.size, 1, none⟩ = some (.int .i64 p.kind) := hbP3.cell 1
                have q2 : w3.cell? ⟨w2.heap.size, 2, none⟩ = some (.int .i64 p.n) := hbP3.cell 2
                have q3 : w3.cell? ⟨w2.heap.size, 3, none⟩ = some (.string p.s) := hbP3.cell 3
                by_cases hgp : goodP p = true
                · have hst4 := Hst3.out
                  rw [if_pos hgp] at hst4
                  have he4 := decL_on (acc := acc) hrne hst4
                  rw [he.out] at he4
                  have He4 := Lib.hid he4
                  clear hst4 he4
                  go_wp2_with (first | (at_builtin; refine wl_append _ rfl (.tmp 89) (.tmp 91) rfl sl_parts RPart.fair rfl rfl (ho3.alloc RPart.fair _) (Src.one (es := partCells p) (y := p) rfl (Ones.of_all rfl) rfl (Lies.new _ _ _)) (NoT.lt _) ?_ ?_ ?_))
                  · simp; omega
                  · have := hw3.size; simp; omega
                  intro v4 w4 ho4 hg4 hv4
                  go_wp2_with fail
                  go_roundw
                  case rel =>
                    refine ⟨k + (m1 + m2), acc ++ [p], by go_num, by omega, ho4, He4.out.symm, (by rw [show (acc ++ [p]).length = acc.length + 1 from by simp]; omega), ?_, below_grown (hw3.alloc hw3.size _) hg4 (by have := hw3.size; simp; omega) (fun k hk => (ho3.lt hk).1)⟩
                    intro x hx
                    rcases List.mem_append.1 hx with h | h
                    · exact hps x h
                    · simp at h; subst h; exact hpl
                  case measure => simp [intOf]; omega
                · simp only [Bool.not_eq_true] at hgp
                  have hst4 := Hst3.out
                  rw [if_neg (by simp [hgp])] at hst4
                  have hB := Bad.out hst4 w3 hw3
                  have HB := Lib.hid hB
                  clear hB hst4
                  go_wp2_with fail
                  go_ret2
                  exact HB.out
              · have hn2' : ¬ (n : Int) % 2 = 0 := by omega
                have htd : wrap64 (-((n : Int) + 1).tdiv 2) = -((n : Int) / 2) - 1 := by
                  rw [Int.tdiv_eq_ediv_of_nonneg (by omega)]; unfold wrap64; omega
                have hst3 := Hst2.out
                rw [if_pos hk4, zag_odd hn2] at hst3
                obtain ⟨p, hp⟩ : ∃ p : Part, p = ⟨(key : Int) / 4, 0, -((n : Int) / 2) - 1, ⟨#[]⟩⟩ := ⟨_, rfl⟩
                have hpl : p.s.size ≤ 20000 := by rw [hp]; show ByteArray.size _ ≤ _; first | exact Nat.zero_le _ | (rw [ByteArray.size_extract]; omega)
                rw [← hp] at hst3
                have Hst3 := Lib.hid hst3
                clear hst3
                go_wp2_with fail
                refine (isPart_any ⟨(key : Int) / 4, 0, -((n : Int) / 2) - 1, ⟨#[]⟩⟩ _ (by rw [← hp]; unfold maxLen; omega)).mono ?_
                rintro e w3 ⟨rfl, hb3⟩
                have hbP3 : Box w3 w2.heap.size 70 (partCells p) := by rw [hp]; exact (Box.new w2 _ _).below hb3 (by simp)
                have ho3 := (ho2.alloc RPart.fair _).below RPart.fair hb3
                have hw3 := below_via (hw2.alloc hw2.size _) hb3 (by have := hw2.size; simp; omega)
                have hsz3 := hb3.size
                simp at hsz3
                clear hb3 ho2 hw2
                rw [← hp]
                clear hp
                have q0 : w3.cell? ⟨w2.heap.size, 0, none⟩ = some (.int .i64 p.id) := hbP3.cell 0
                have q1 : w3.cell? ⟨w2.heap.size, 1, none⟩ = some (.int .i64 p.kind) := hbP3.cell 1
                have q2 : w3.cell? ⟨w2.heap.size, 2, none⟩ = some (.int .i64 p.n) := hbP3.cell 2
                have q3 : w3.cell? ⟨w2.heap.size, 3, none⟩ = some (.string p.s) := hbP3.cell 3
                by_cases hgp : goodP p = true
                · have hst4 := Hst3.out
                  rw [if_pos hgp] at hst4
                  have he4 := decL_on (acc := acc) hrne hst4
                  rw [he.out] at he4
                  have He4 := Lib.hid he4
                  clear hst4 he4
                  go_wp2_with (first | (at_builtin; refine wl_append _ rfl (.tmp 89) (.tmp 91) rfl sl_parts RPart.fair rfl rfl (ho3.alloc RPart.fair _) (Src.one (es := partCells p) (y := p) rfl (Ones.of_all rfl) rfl (Lies.new _ _ _)) (NoT.lt _) ?_ ?_ ?_))
                  · simp; omega
                  · have := hw3.size; simp; omega
                  intro v4 w4 ho4 hg4 hv4
                  go_wp2_with fail
                  go_roundw
                  case rel =>
                    refine ⟨k + (m1 + m2), acc ++ [p], by go_num, by omega, ho4, He4.out.symm, (by rw [show (acc ++ [p]).length = acc.length + 1 from by simp]; omega), ?_, below_grown (hw3.alloc hw3.size _) hg4 (by have := hw3.size; simp; omega) (fun k hk => (ho3.lt hk).1)⟩
                    intro x hx
                    rcases List.mem_append.1 hx with h | h
                    · exact hps x h
                    · simp at h; subst h; exact hpl
                  case measure => simp [intOf]; omega
                · simp only [Bool.not_eq_true] at hgp
                  have hst4 := Hst3.out
                  rw [if_neg (by simp [hgp])] at hst4
                  have hB := Bad.out hst4 w3 hw3
                  have HB := Lib.hid hB
                  clear hB hst4
                  go_wp2_with fail
                  go_ret2
                  exact HB.out
            · have hk4' : ¬ (key : Int) % 4 = 0 := by omega
              by_cases hnl : n ≤ s.size - (k + (m1 + m2))
              · have hnl' : (n : Int) ≤ s.size - (k + (m1 + m2)) := by omega
                have hst3 := Hst2.out
                rw [if_neg hk4, if_pos (by rw [Hlen.out]; exact hnl), List.drop_drop, ← bytes_mid s (k + (m1 + m2)) n (by omega), ← ba_of (s := s.extract (k + (m1 + m2)) (k + (m1 + m2) + n)) rfl] at hst3
                obtain ⟨p, hp⟩ : ∃ p : Part, p = ⟨(key : Int) / 4, (key : Int) % 4, 0, s.extract (k + (m1 + m2)) (k + (m1 + m2) + n)⟩ := ⟨_, rfl⟩
                have hpl : p.s.size ≤ 20000 := by rw [hp]; show ByteArray.size _ ≤ _; first | exact Nat.zero_le _ | (rw [ByteArray.size_extract]; omega)
                rw [← hp] at hst3
                have Hst3 := Lib.hid hst3
                clear hst3
                go_wp2_with fail
                refine (isPart_any ⟨(key : Int) / 4, (key : Int) % 4, 0, s.extract (k + (m1 + m2)) (k + (m1 + m2) + n)⟩ _ (by rw [← hp]; unfold maxLen; omega)).mono ?_
                rintro e w3 ⟨rfl, hb3⟩
                have hbP3 : Box w3 w2.heap.size 70 (partCells p) := by rw [hp]; exact (Box.new w2 _ _).below hb3 (by simp)
                have ho3 := (ho2.alloc RPart.fair _).below RPart.fair hb3
                have hw3 := below_via (hw2.alloc hw2.size _) hb3 (by have := hw2.size; simp; omega)
                have hsz3 := hb3.size
                simp at hsz3
                clear hb3 ho2 hw2
                rw [← hp]
                clear hp
                have q0 : w3.cell? ⟨w2.heap.size, 0, none⟩ = some (.int .i64 p.id) := hbP3.cell 0
                have q1 : w3.cell? ⟨w2.heap.size, 1, none⟩ = some (.int .i64 p.kind) := hbP3.cell 1
                have q2 : w3.cell? ⟨w2.heap.size, 2, none⟩ = some (.int .i64 p.n) := hbP3.cell 2
                have q3 : w3.cell? ⟨w2.heap.size, 3, none⟩ = some (.string p.s) := hbP3.cell 3
                by_cases hgp : goodP p = true
                · have hst4 := Hst3.out
                  rw [if_pos hgp] at hst4
                  have he4 := decL_on (acc := acc) hrne hst4
                  rw [he.out] at he4
                  have He4 := Lib.hid he4
                  clear hst4 he4
                  go_wp2_with (first | (at_builtin; refine wl_append _ rfl (.tmp 89) (.tmp 91) rfl sl_parts RPart.fair rfl rfl (ho3.alloc RPart.fair _) (Src.one (es := partCells p) (y := p) rfl (Ones.of_all rfl) rfl (Lies.new _ _ _)) (NoT.lt _) ?_ ?_ ?_))
                  · simp; omega
                  · have := hw3.size; simp; omega
                  intro v4 w4 ho4 hg4 hv4
                  go_wp2_with fail
                  go_roundw
                  case rel =>
                    refine ⟨k + (m1 + m2) + n, acc ++ [p], by go_num, by omega, ho4, He4.out.symm, (by rw [show (acc ++ [p]).length = acc.length + 1 from by simp]; omega), ?_, below_grown (hw3.alloc hw3.size _) hg4 (by have := hw3.size; simp; omega) (fun k hk => (ho3.lt hk).1)⟩
                    intro x hx
                    rcases List.mem_append.1 hx with h | h
                    · exact hps x h
                    · simp at h; subst h; exact hpl
                  case measure => simp [intOf]; omega
                · simp only [Bool.not_eq_true] at hgp
                  have hst4 := Hst3.out
                  rw [if_neg (by simp [hgp])] at hst4
                  have hB := Bad.out hst4 w3 hw3
                  have HB := Lib.hid hB
                  clear hB hst4
                  go_wp2_with fail
                  go_ret2
                  exact HB.out
              · have hnl' : ¬ (n : Int) ≤ s.size - (k + (m1 + m2)) := by omega
                have hB := Bad.out (by rw [Hst2.out, if_neg hk4, if_neg (by rw [Hlen.out]; exact hnl)])
                have HB := Lib.hid hB
                clear hB
                go_wp2_with fail
                go_ret2
                exact HB.out _ (hw2.alloc hw2.size _)
      · have hd : (bytes s).drop k = [] := List.drop_eq_nil_of_le (by rw [bytes_len]; omega)
        rw [hd, decL_nil] at he
        go_wp2_with fail
        go_ret2
        rw [← he.out]
        exact ⟨_, rfl, ho.read RPart.fair (fun g h => h.elim) (fun k hk => (ho.lt hk).1) (by show acc.length * 40 ≤ _; omega), hb, hps, by show acc.length ≤ _; omega⟩
end Go.Proofs.YtockolmdffehnaaDoor
