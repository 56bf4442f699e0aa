/- wire.Decode walked. -/
import Derived.Test.YtfichobelmabeaaWireGet
import Derived.Test.YtfichobelmabeaaWireEq
namespace Go.Proofs.Ytfichobelmabeaa
open Go.RowKit

/-- A list of parts and an error. -/
def DecPost (w : World) (r : List Part × Int) (e : Ending) (w' : World) : Prop :=
  ∃ v, e = .returned (.tuple #[v, .int .i64 r.2]) ∧ RSl 4 40 RPart (fun g => w.heap.size ≤ g) w' [v] r.1 ∧ Below w.heap.size w w' ∧ (∀ p ∈ r.1, p.s.size ≤ 20000) ∧ r.1.length ≤ 20000

set_option maxRecDepth 100000 in
set_option maxHeartbeats 1000000 in
theorem decode_any (s : ByteArray) (w : World) (hs : s.size ≤ maxLen) :
    Calls Try.prog 12 #[.string s] w (DecPost w (decF (bytes s))) := by
  unfold maxLen at hs
  by_cases hlong : 20000 < s.size
  · go_enter Try.func12, Try.ntmps12
    go_wp2_with fail
    go_ret2
    have : decF (bytes s) = ([], 7) := by rw [decF, if_pos (show 20000 < (bytes s).length from hlong)]
    rw [this]
    exact ⟨_, rfl, RSl.nil_, Below.refl _ _, by simp, by simp⟩
  · have hd : decF (bytes s) = decL (bytes s).length (bytes s) [] := by rw [decF, if_neg (show ¬ 20000 < (bytes s).length from hlong)]
    have Hd := Lib.hid hd
    clear hd
    go_enter Try.func12, Try.ntmps12
    go_wp2_with fail
    go_loopw [5] (fun v wr => ∃ (rs : ByteArray) (acc : List Part), Own w.heap.size 27 4 RPart NoT wr v acc ∧ Box wr w.heap.size 42 [.string rs, .bool false] ∧ v.ownBlock ≠ some w.heap.size ∧
        Hid (decL (bytes rs).length (bytes rs) acc = decF (bytes s)) ∧ acc.length + rs.size ≤ 20000 ∧ (∀ p ∈ acc, p.s.size ≤ 20000) ∧ Below w.heap.size w wr) (fun _ wr => strLen wr w.heap.size)
    case atStart => exact ⟨s, [], Own.nil_ _ _ _ _ _ _, Box.new w _ [.string s, .bool false], by simp [Value.ownBlock], Hd.out.symm, by simp; omega, by simp, (Below.refl _ _).alloc (Nat.le_refl _) _⟩
    case round =>
      obtain ⟨rs, acc, ho, hbx, hvg, he, hacc, hps, hb⟩ := hrel
      have c0 : wr.cell? ⟨w.heap.size, 0, none⟩ = some (.string rs) := hbx.cell 0
      by_cases hemp : rs.size = 0
      · have hemp' : rs.toList.isEmpty = true := by rw [toList_isEmpty]; simpa using hemp
        go_wp2_with fail
        go_ret2
        have hrs : bytes rs = [] := List.eq_nil_of_length_eq_zero hemp
        rw [hrs, decL_nil] at he
        rw [← he.out]
        refine ⟨_, rfl, ho.read RPart.fair (fun g h => h.elim) (fun k hk => (ho.lt hk).1) (by show acc.length * 40 ≤ _; omega), hb, hps, by show acc.length ≤ _; omega⟩
      · have hemp' : rs.toList.isEmpty = false := by rw [toList_isEmpty]; simpa using hemp
        go_wp2_with fail
        refine (get_any w.heap.size rs false _ (by omega) hbx).mono ?_
        rintro e w1 ⟨s1, rfl, hs1, hbx1, hg1⟩
        have hkey := getF_lt (bytes rs)
        have hm1 := getF_len (bytes rs)
        generalize hr1 : getF (bytes rs) = r1 at *
        obtain ⟨key, m1, b1⟩ := r1
        simp only [Bool.false_or] at hs1 hbx1 hkey hm1
        have HR1 := Lib.hid hr1
        clear hr1
        have hk3 := and3 key (by omega)
        have ho1 : Own w.heap.size 27 4 RPart NoT w1 _ acc := ho.kept RPart.fair hg1 (.inr hvg) (fun k _ h => h)
        have hw1 : Below w.heap.size w w1 := below_grown hb hg1 hb.size (by rintro k hk; cases hk; exact Nat.le_refl _)
        have hgw : w.heap.size < w1.heap.size := hbx1.lt
        have hs1l : s1.size ≤ 20000 := by
          have := congrArg List.length hs1.out
          simp only [bytes_len, List.length_drop] at this; omega
        have Hc0 := Lib.hid c0
        clear hg1 hb ho hbx c0
        have hbp : Box (w1.alloc (.cells #[.int .i64 ((key / 4 : Nat) : Int), .int .i64 ((key % 4 : Nat) : Int), .int .i64 0, .string ⟨#[]⟩] 27)) w1.heap.size 27 [.int .i64 ((key / 4 : Nat) : Int), .int .i64 ((key % 4 : Nat) : Int), .int .i64 0, .string ⟨#[]⟩] := Box.new w1 _ _
        go_wp2_with fail
        refine (get_any w.heap.size s1 b1 _ hs1l (hbx1.alloc _)).mono ?_
        rintro e w2 ⟨s2, rfl, hs2, hbx2, hg2⟩
        have hn := getF_lt (bytes s1)
        have hm2 := getF_len (bytes s1)
        generalize hr2 : getF (bytes s1) = r2 at *
        obtain ⟨n, m2, b2⟩ := r2
        simp only at hs2 hbx2 hn hm2
        have HR2 := Lib.hid hr2
        clear hr2
        have hbp2 := hbp.grown hg2 (by simp; omega)
        have ho2 : Own w.heap.size 27 4 RPart NoT w2 _ acc := (ho1.alloc RPart.fair _).kept RPart.fair hg2 (.inr hvg) (fun k _ h => h)
        have hvp := fun k (hk : Value.ownBlock _ = some k) => (ho1.lt hk).2
        have hw2 : Below w.heap.size w w2 := below_grown (hw1.alloc hw1.size _) hg2 (by have := hw1.size; simp; omega) (by rintro k hk; cases hk; exact Nat.le_refl _)
        have hpw : w1.heap.size < w2.heap.size := hbp2.lt
        have hs2l : s2.size ≤ 20000 := by
          have := congrArg List.length hs2.out
          simp only [bytes_len, List.length_drop] at this; omega
        clear hg2 ho1 hw1 hbp hbx1
        have p0 : w2.cell? ⟨w1.heap.size, 0, none⟩ = some (.int .i64 ((key / 4 : Nat) : Int)) := hbp2.cell 0
        have p1 : w2.cell? ⟨w1.heap.size, 1, none⟩ = some (.int .i64 ((key % 4 : Nat) : Int)) := hbp2.cell 1
        have p2 : w2.cell? ⟨w1.heap.size, 2, none⟩ = some (.int .i64 0) := hbp2.cell 2
        have p3 : w2.cell? ⟨w1.heap.size, 3, none⟩ = some (.string ⟨#[]⟩) := hbp2.cell 3
        have pf2 : w2.frozen? ⟨w1.heap.size, 2, none⟩ = false := hbp2.frozen 2
        have pf3 : w2.frozen? ⟨w1.heap.size, 3, none⟩ = false := hbp2.frozen 3
        have r0 : w2.cell? ⟨w.heap.size, 0, none⟩ = some (.string s2) := hbx2.cell 0
        have r1 : w2.cell? ⟨w.heap.size, 1, none⟩ = some (.bool (b1 || b2)) := hbx2.cell 1
        have rf0 : w2.frozen? ⟨w.heap.size, 0, none⟩ = false := hbx2.frozen 0
        have rf1 : w2.frozen? ⟨w.heap.size, 1, none⟩ = false := hbx2.frozen 1
        have hne : (w.heap.size = w1.heap.size) = False := by simp; omega
        have hne' : (w1.heap.size = w.heap.size) = False := by simp; omega
        have hn1 := and1 n (by omega)
        have hx0 := xor_zero' n (by omega)
        have hx1 := xor_minus' n (by omega)
        have Hbp2 := Lib.hid hbp2
        have Hbx2 := Lib.hid hbx2
        clear hbp2 hbx2
        have hst : stepD (bytes rs) = _ := stepD_eq (n := n) (m2 := m2) (b2 := b2) HR1.out (by rw [← hs1.out]; exact HR2.out)
        rw [← hs1.out, ← hs2.out] at hst
        have Hst := Lib.hid hst
        clear hst
        have hrne : bytes rs ≠ [] := by intro h; exact hemp (congrArg List.length h)
        have bad : stepD (bytes rs) = none → ∀ W, Below w.heap.size w W → DecPost w (decF (bytes s)) (.returned (.tuple #[.slice none 0 0, .int .i64 1])) W := by
          intro h W hw2
          rw [← he.out, decL_stop hrne h]
          exact ⟨_, rfl, RSl.nil_, hw2, by simp, by simp⟩
        have Bad := Lib.hid bad
        clear bad
        by_cases hbb : (b1 || b2) = true
        · have hnone : stepD (bytes rs) = none := by rw [Hst.out, if_pos (by simpa using hbb)]
          rw [hbb] at r1
          have hB := Bad.out hnone
          have HB := Lib.hid hB
          clear hB hnone hbb hn1 hx0 hx1
          by_cases hk4 : key % 4 = 0
          · go_wp2_with fail
            go_ret2
            exact HB.out _ (hw2.setCell (p := ⟨w1.heap.size, 2, none⟩) (by show w.heap.size ≤ w1.heap.size; omega) _)
          · by_cases hnl : (n : Int) ≤ s2.size
            · go_wp2_with fail
              go_region
              all_goals
                go_wp2_with fail
                go_ret2
                exact HB.out _ (((below_drew hw2).setCell (p := ⟨w1.heap.size, 3, none⟩) (by show w.heap.size ≤ w1.heap.size; omega) _).setCell (p := ⟨w.heap.size, 0, none⟩) (Nat.le_refl _) _)
            · go_wp2_with fail
              go_ret2
              exact HB.out _ (hw2.setCell (p := ⟨w.heap.size, 1, none⟩) (Nat.le_refl _) _)
        · have hb1 : b1 = false := by cases b1 <;> simp_all
          have hb2 : b2 = false := by cases b2 <;> simp_all
          subst hb1 hb2
          have hst2 := Hst.out
          rw [if_neg (by simp)] at hst2
          have Hst2 := Lib.hid hst2
          clear hst2 hbb Hst
          by_cases hk4 : key % 4 = 0
          · by_cases hn2 : n % 2 = 0
            · have hbP := Hbp2.out.set_ 2 (.int .i64 ((n : Int) / 2))
              have hbR := Hbx2.out.far (p := ⟨w1.heap.size, 2, none⟩) (by show w.heap.size ≠ w1.heap.size; omega) (.int .i64 ((n : Int) / 2))
              have hoW := ho2.setCell RPart.fair (p := ⟨w1.heap.size, 2, none⟩) (.int .i64 ((n : Int) / 2)) (by intro h; have := hvp _ h; simp at this) (fun h => h)
              have hwW := hw2.setCell (p := ⟨w1.heap.size, 2, none⟩) (by show w.heap.size ≤ w1.heap.size; omega) (.int .i64 ((n : Int) / 2))
              have hst3 := Hst2.out
              rw [if_pos hk4, zag_even hn2] at hst3
              have HS3 := Lib.hid hst3
              clear hst3
              go_wp2_with fail
              refine (wgood_any ⟨_, _, _, _⟩ _ ?_).mono ?_
              · unfold maxLen; show ByteArray.size _ ≤ _; first | exact Nat.zero_le _ | omega
              rintro e w3 ⟨rfl, hb3⟩
              have hbP3 := hbP.below hb3 hbP.lt
              have hbR3 := hbR.below hb3 hbR.lt
              have ho3 := hoW.below RPart.fair hb3
              have hw3 := below_via hwW hb3 hwW.size
              have hpw3 := hbP3.lt
              clear hb3 hbP hbR hoW hwW p0 p1 p2 p3 pf2 pf3 r0 r1 rf0 rf1 ho2 hw2
              obtain ⟨p, hp⟩ : ∃ p : Part, p = ⟨(key : Int) / 4, 0, (n : Int) / 2, ⟨#[]⟩⟩ := ⟨_, rfl⟩
              rw [← hp] at HS3 ⊢
              have hcs : partCells p = _ := congrArg partCells hp
              replace hbP3 : Box w3 w1.heap.size 27 (partCells p) := by rw [hp]; first | exact hbP3 | (rw [hk4] at hbP3; exact hbP3)
              clear hcs hp
              have q0 : w3.cell? ⟨w1.heap.size, 0, none⟩ = some (.int .i64 p.id) := hbP3.cell 0
              have q1 : w3.cell? ⟨w1.heap.size, 1, none⟩ = some (.int .i64 p.kind) := hbP3.cell 1
              have q2 : w3.cell? ⟨w1.heap.size, 2, none⟩ = some (.int .i64 p.n) := hbP3.cell 2
              have q3 : w3.cell? ⟨w1.heap.size, 3, none⟩ = some (.string p.s) := hbP3.cell 3
              by_cases hgp : goodP p = true
              · have hst4 := HS3.out
                rw [if_pos hgp] at hst4
                have hlt4 := stepD_len hst4
                have he4 := decL_on (acc := acc) hrne hst4
                rw [he.out] at he4
                have He4 := Lib.hid he4
                clear hst4 he4
                simp only [bytes_len] at hlt4
                go_wp2_with (first | (at_builtin; refine wl_append _ rfl (.tmp 79) (.tmp 81) rfl sl_parts RPart.fair rfl rfl (ho3.alloc RPart.fair _) (Src.one (es := partCells p) (y := p) rfl (Ones.of_all rfl) rfl (Lies.new _ _ _)) (NoT.lt _) ?_ ?_ ?_))
                · simp; omega
                · have := hw3.size; simp; omega
                intro v4 w4 ho4 hg4 hv4
                have hbR4 := (hbR3.alloc (.cells (partCells p).toArray 27)).grown hg4 hvg
                have c4 := hbR4.cell 0
                go_wp2_with fail
                go_roundw
                case rel =>
                  refine ⟨s2, acc ++ [p], ho4, hbR4, ?_, He4.out.symm, (by rw [show (acc ++ [p]).length = acc.length + 1 from by simp]; omega), ?_, below_grown (hw3.alloc hw3.size _) hg4 (by have := hw3.size; simp; omega) (fun k hk => (ho3.lt hk).1)⟩
                  · rcases hv4 with h | h
                    · rw [h]; exact hvg
                    · rw [h]; simp; have := hbR3.lt; omega
                  · intro x hx
                    rcases List.mem_append.1 hx with h | h
                    · exact hps x h
                    · simp at h; subst h; simp [goodP] at hgp; omega
                case measure => rw [strLen_of c4, strLen_of Hc0.out]; exact hlt4
              · simp only [Bool.not_eq_true] at hgp
                have hst4 := HS3.out
                rw [if_neg (by simp [hgp])] at hst4
                have he4 := decL_stop (acc := acc) hrne hst4
                rw [he.out] at he4
                have He4 := Lib.hid he4
                clear hst4 he4
                go_wp2_with fail
                go_ret2
                rw [He4.out]
                exact ⟨_, rfl, RSl.nil_, hw3, by simp, by simp⟩
            · have hn21 : n % 2 = 1 := by omega
              have hbP := Hbp2.out.set_ 2 (.int .i64 (-((n : Int) / 2) - 1))
              have hbR := Hbx2.out.far (p := ⟨w1.heap.size, 2, none⟩) (by show w.heap.size ≠ w1.heap.size; omega) (.int .i64 (-((n : Int) / 2) - 1))
              have hoW := ho2.setCell RPart.fair (p := ⟨w1.heap.size, 2, none⟩) (.int .i64 (-((n : Int) / 2) - 1)) (by intro h; have := hvp _ h; simp at this) (fun h => h)
              have hwW := hw2.setCell (p := ⟨w1.heap.size, 2, none⟩) (by show w.heap.size ≤ w1.heap.size; omega) (.int .i64 (-((n : Int) / 2) - 1))
              have hst3 := Hst2.out
              rw [if_pos hk4, zag_odd hn2] at hst3
              have HS3 := Lib.hid hst3
              clear hst3
              go_wp2_with fail
              refine (wgood_any ⟨_, _, _, _⟩ _ ?_).mono ?_
              · unfold maxLen; show ByteArray.size _ ≤ _; first | exact Nat.zero_le _ | omega
              rintro e w3 ⟨rfl, hb3⟩
              have hbP3 := hbP.below hb3 hbP.lt
              have hbR3 := hbR.below hb3 hbR.lt
              have ho3 := hoW.below RPart.fair hb3
              have hw3 := below_via hwW hb3 hwW.size
              have hpw3 := hbP3.lt
              clear hb3 hbP hbR hoW hwW p0 p1 p2 p3 pf2 pf3 r0 r1 rf0 rf1 ho2 hw2
              obtain ⟨p, hp⟩ : ∃ p : Part, p = ⟨(key : Int) / 4, 0, -((n : Int) / 2) - 1, ⟨#[]⟩⟩ := ⟨_, rfl⟩
              rw [← hp] at HS3 ⊢
              have hcs : partCells p = _ := congrArg partCells hp
              replace hbP3 : Box w3 w1.heap.size 27 (partCells p) := by rw [hp]; first | exact hbP3 | (rw [hk4] at hbP3; exact hbP3)
              clear hcs hp
              have q0 : w3.cell? ⟨w1.heap.size, 0, none⟩ = some (.int .i64 p.id) := hbP3.cell 0
              have q1 : w3.cell? ⟨w1.heap.size, 1, none⟩ = some (.int .i64 p.kind) := hbP3.cell 1
              have q2 : w3.cell? ⟨w1.heap.size, 2, none⟩ = some (.int .i64 p.n) := hbP3.cell 2
              have q3 : w3.cell? ⟨w1.heap.size, 3, none⟩ = some (.string p.s) := hbP3.cell 3
              by_cases hgp : goodP p = true
              · have hst4 := HS3.out
                rw [if_pos hgp] at hst4
                have hlt4 := stepD_len hst4
                have he4 := decL_on (acc := acc) hrne hst4
                rw [he.out] at he4
                have He4 := Lib.hid he4
                clear hst4 he4
                simp only [bytes_len] at hlt4
                go_wp2_with (first | (at_builtin; refine wl_append _ rfl (.tmp 79) (.tmp 81) rfl sl_parts RPart.fair rfl rfl (ho3.alloc RPart.fair _) (Src.one (es := partCells p) (y := p) rfl (Ones.of_all rfl) rfl (Lies.new _ _ _)) (NoT.lt _) ?_ ?_ ?_))
                · simp; omega
                · have := hw3.size; simp; omega
                intro v4 w4 ho4 hg4 hv4
                have hbR4 := (hbR3.alloc (.cells (partCells p).toArray 27)).grown hg4 hvg
                have c4 := hbR4.cell 0
                go_wp2_with fail
                go_roundw
                case rel =>
                  refine ⟨s2, acc ++ [p], ho4, hbR4, ?_, He4.out.symm, (by rw [show (acc ++ [p]).length = acc.length + 1 from by simp]; omega), ?_, below_grown (hw3.alloc hw3.size _) hg4 (by have := hw3.size; simp; omega) (fun k hk => (ho3.lt hk).1)⟩
                  · rcases hv4 with h | h
                    · rw [h]; exact hvg
                    · rw [h]; simp; have := hbR3.lt; omega
                  · intro x hx
                    rcases List.mem_append.1 hx with h | h
                    · exact hps x h
                    · simp at h; subst h; simp [goodP] at hgp; omega
                case measure => rw [strLen_of c4, strLen_of Hc0.out]; exact hlt4
              · simp only [Bool.not_eq_true] at hgp
                have hst4 := HS3.out
                rw [if_neg (by simp [hgp])] at hst4
                have he4 := decL_stop (acc := acc) hrne hst4
                rw [he.out] at he4
                have He4 := Lib.hid he4
                clear hst4 he4
                go_wp2_with fail
                go_ret2
                rw [He4.out]
                exact ⟨_, rfl, RSl.nil_, hw3, by simp, by simp⟩
          · by_cases hnl : n ≤ s2.size
            · have hbP := (Hbp2.out.drew.set_ 3 (.string (s2.extract 0 n))).far (p := ⟨w.heap.size, 0, none⟩) (by show w1.heap.size ≠ w.heap.size; omega) (.string (s2.extract n s2.size))
              have hbR := (Hbx2.out.drew.far (p := ⟨w1.heap.size, 3, none⟩) (by show w.heap.size ≠ w1.heap.size; omega) (.string (s2.extract 0 n))).set_ 0 (.string (s2.extract n s2.size))
              have hoW := ((ho2.drew RPart.fair).setCell RPart.fair (p := ⟨w1.heap.size, 3, none⟩) (.string (s2.extract 0 n)) (by intro h; have := hvp _ h; simp at this) (fun h => h)).setCell RPart.fair (p := ⟨w.heap.size, 0, none⟩) (.string (s2.extract n s2.size)) hvg (fun h => h)
              have hwW := ((below_drew hw2).setCell (p := ⟨w1.heap.size, 3, none⟩) (by show w.heap.size ≤ w1.heap.size; omega) (.string (s2.extract 0 n))).setCell (p := ⟨w.heap.size, 0, none⟩) (Nat.le_refl _) (.string (s2.extract n s2.size))
              have hnl' : (n : Int) ≤ s2.size := by omega
              have hzl : (s2.extract 0 n).size ≤ 20000 := by simp; omega
              have hst3 := Hst2.out
              rw [if_neg hk4, if_pos (show n ≤ (bytes s2).length from hnl), ← bytes_to, ← bytes_from, ← ba_of (s := s2.extract 0 n) rfl] at hst3
              have HS3 := Lib.hid hst3
              clear hst3
              go_wp2_with fail
              go_region
              go_wp2_with fail
              refine (wgood_any ⟨(key : Int) / 4, (key : Int) % 4, 0, s2.extract 0 n⟩ _ ?_).mono ?_
              · unfold maxLen; show (s2.extract 0 n).size ≤ _; omega
              rintro e w3 ⟨rfl, hb3⟩
              have hbP3 := hbP.below hb3 hbP.lt
              have hbR3 := hbR.below hb3 hbR.lt
              have ho3 := hoW.below RPart.fair hb3
              have hw3 := below_via hwW hb3 hwW.size
              have hpw3 := hbP3.lt
              clear hb3 hbP hbR hoW hwW p0 p1 p2 p3 pf2 pf3 r0 r1 rf0 rf1 ho2 hw2
              obtain ⟨p, hp⟩ : ∃ p : Part, p = ⟨(key : Int) / 4, (key : Int) % 4, 0, s2.extract 0 n⟩ := ⟨_, rfl⟩
              rw [← hp] at HS3 ⊢
              have hcs : partCells p = _ := congrArg partCells hp
              replace hbP3 : Box w3 w1.heap.size 27 (partCells p) := by rw [hp]; first | exact hbP3 | (rw [hk4] at hbP3; exact hbP3)
              clear hcs hp
              have q0 : w3.cell? ⟨w1.heap.size, 0, none⟩ = some (.int .i64 p.id) := hbP3.cell 0
              have q1 : w3.cell? ⟨w1.heap.size, 1, none⟩ = some (.int .i64 p.kind) := hbP3.cell 1
              have q2 : w3.cell? ⟨w1.heap.size, 2, none⟩ = some (.int .i64 p.n) := hbP3.cell 2
              have q3 : w3.cell? ⟨w1.heap.size, 3, none⟩ = some (.string p.s) := hbP3.cell 3
              by_cases hgp : goodP p = true
              · have hst4 := HS3.out
                rw [if_pos hgp] at hst4
                have hlt4 := stepD_len hst4
                have he4 := decL_on (acc := acc) hrne hst4
                rw [he.out] at he4
                have He4 := Lib.hid he4
                clear hst4 he4
                simp only [bytes_len] at hlt4
                go_wp2_with (first | (at_builtin; refine wl_append _ rfl (.tmp 79) (.tmp 81) rfl sl_parts RPart.fair rfl rfl (ho3.alloc RPart.fair _) (Src.one (es := partCells p) (y := p) rfl (Ones.of_all rfl) rfl (Lies.new _ _ _)) (NoT.lt _) ?_ ?_ ?_))
                · simp; omega
                · have := hw3.size; simp; omega
                intro v4 w4 ho4 hg4 hv4
                have hbR4 := (hbR3.alloc (.cells (partCells p).toArray 27)).grown hg4 hvg
                have c4 := hbR4.cell 0
                go_wp2_with fail
                go_roundw
                case rel =>
                  refine ⟨s2.extract n s2.size, acc ++ [p], ho4, hbR4, ?_, He4.out.symm, (by rw [show (acc ++ [p]).length = acc.length + 1 from by simp]; omega), ?_, below_grown (hw3.alloc hw3.size _) hg4 (by have := hw3.size; simp; omega) (fun k hk => (ho3.lt hk).1)⟩
                  · rcases hv4 with h | h
                    · rw [h]; exact hvg
                    · rw [h]; simp; have := hbR3.lt; omega
                  · intro x hx
                    rcases List.mem_append.1 hx with h | h
                    · exact hps x h
                    · simp at h; subst h; simp [goodP] at hgp; omega
                case measure => rw [strLen_of c4, strLen_of Hc0.out]; exact hlt4
              · simp only [Bool.not_eq_true] at hgp
                have hst4 := HS3.out
                rw [if_neg (by simp [hgp])] at hst4
                have he4 := decL_stop (acc := acc) hrne hst4
                rw [he.out] at he4
                have He4 := Lib.hid he4
                clear hst4 he4
                go_wp2_with fail
                go_ret2
                rw [He4.out]
                exact ⟨_, rfl, RSl.nil_, hw3, by simp, by simp⟩
            · have hnone : stepD (bytes rs) = none := by
                rw [Hst2.out, if_neg hk4, if_neg (show ¬ n ≤ (bytes s2).length from hnl)]
              have hB := Bad.out hnone (w2.setCell ⟨w.heap.size, 1, none⟩ (.bool true)) (hw2.setCell (p := ⟨w.heap.size, 1, none⟩) (Nat.le_refl _) _)
              have HB := Lib.hid hB
              clear hB hnone
              have hnl' : ¬ (n : Int) ≤ s2.size := by omega
              go_wp2_with fail
              go_ret2
              exact HB.out
end Go.Proofs.Ytfichobelmabeaa
