/- The reference's EncodeParts walked. -/
import Derived.Test.YtockolmdffehnaaDoorWireRef
import Derived.Test.YtockolmdffehnaaDoorWires
namespace Go.Proofs.YtockolmdffehnaaDoor
open Go.RowKit


set_option maxRecDepth 100000 in
set_option maxHeartbeats 400000 in
theorem encodeParts_any (S : Nat → Prop) (vl : Value) (l : List Part) (w : World) (hl : RSl 4 40 RPart S w [vl] l) (hp : ∀ p ∈ l, p.s.size ≤ maxLen) :
    Calls Tryd.prog 43 #[vl] w (Pair w (.string ⟨(encL l []).1.toArray⟩) (.int .i64 (encL l []).2)) := by
  obtain ⟨A, cap, rfl, hlc, hlb⟩ := hl.form
  have hlen : l.length ≤ 9223372036854775807 := by omega
  have HL := Lib.hid hl
  have HP := Lib.hid hp
  clear hl hp
  go_enter Tryd.func43, Tryd.ntmps43
  go_wp2_with fail
  go_loopw [4, 9] (fun v i wr => ∃ (k : Nat) (sv : ByteArray), i = .int .i64 k ∧ k ≤ l.length ∧ v = .string sv ∧ Hid (encL (l.drop k) (bytes sv) = encL l []) ∧
      sv.size ≤ 20000 ∧ Below w.heap.size w wr) (fun _ i _ => l.length - (intOf i).toNat)
  case atStart => exact ⟨0, _, rfl, by omega, rfl, rfl, Nat.zero_le _, Below.refl _ _⟩
  case round =>
    obtain ⟨k, sv, rfl, hk, rfl, he, hacc, hb⟩ := hrel
    by_cases hlt : k < l.length
    · have hd : l.drop k = l[k] :: l.drop (k + 1) := List.drop_eq_getElem_cons hlt
      obtain ⟨g, o, es, rfl, hS, hg, hes, hr, hc⟩ := ((RSl.fair RPart.fair).keep HL.out (Keep.of_below hb)).at_ hlt
      have hps := HP.out l[k] (List.getElem_mem hlt)
      obtain ⟨p, hpe⟩ : ∃ p, p = l[k] := ⟨_, rfl⟩
      rw [← hpe] at hr hd hps
      have Hd := Lib.hid hd
      clear hd hpe
      have hr' : es = partCells p := hr
      subst hr'
      have c0 : wr.cell? ⟨g, o + k * 4, none⟩ = some (.int .i64 p.id) := hc.at_ 0 rfl
      have c1 : wr.cell? ⟨g, o + k * 4 + 1, none⟩ = some (.int .i64 p.kind) := hc.at_ 1 rfl
      have c2 : wr.cell? ⟨g, o + k * 4 + 2, none⟩ = some (.int .i64 p.n) := hc.at_ 2 rfl
      have c3 : wr.cell? ⟨g, o + k * 4 + 3, none⟩ = some (.string p.s) := hc.at_ 3 rfl
      go_wp2_with fail
      refine (isPart_any p _ hps).mono ?_
      rintro e w1 ⟨rfl, hb1⟩
      have hbx : Box w1 wr.heap.size 70 (partCells p) := (Box.new wr _ (partCells p)).below hb1 (by simp)
      have hbw : Below w.heap.size w w1 := below_via (hb.alloc hb.size _) hb1 (by have := hb.size; simp; omega)
      have d0 : w1.cell? ⟨wr.heap.size, 0, none⟩ = some (.int .i64 p.id) := hbx.cell 0
      have d1 : w1.cell? ⟨wr.heap.size, 1, none⟩ = some (.int .i64 p.kind) := hbx.cell 1
      have d2 : w1.cell? ⟨wr.heap.size, 2, none⟩ = some (.int .i64 p.n) := hbx.cell 2
      have d3 : w1.cell? ⟨wr.heap.size, 3, none⟩ = some (.string p.s) := hbx.cell 3
      have hsz1 := hb1.size
      simp at hsz1
      clear hb1 hb hc c0 c1 c2 c3 hS hg hr hes
      by_cases hgp : goodP p = true
      · have hid : 1 ≤ p.id ∧ p.id ≤ 30 ∧ 0 ≤ p.kind ∧ p.kind ≤ 2 ∧ -1099511627776 ≤ p.n ∧ p.n ≤ 1099511627776 ∧ p.s.size ≤ 20000 ∧ (p.kind = 0 ∨ p.n = 0) := by
          simp [goodP] at hgp; omega
        obtain ⟨i1, i2, i3, i4, i5, i6, i7, i8⟩ := hid
        go_wp2_with fail
        refine (sevens_any _ _ ?_ ?_).mono ?_
        · omega
        · omega
        rintro e w2 ⟨s1, rfl, Hs1, hs1l, hb2⟩
        have hbx2 : Box w2 wr.heap.size 70 (partCells p) := hbx.below hb2 (by omega)
        have hbw2 : Below w.heap.size w w2 := below_via hbw hb2 hbw.size
        have e0 : w2.cell? ⟨wr.heap.size, 0, none⟩ = some (.int .i64 p.id) := hbx2.cell 0
        have e1 : w2.cell? ⟨wr.heap.size, 1, none⟩ = some (.int .i64 p.kind) := hbx2.cell 1
        have e2 : w2.cell? ⟨wr.heap.size, 2, none⟩ = some (.int .i64 p.n) := hbx2.cell 2
        have e3 : w2.cell? ⟨wr.heap.size, 3, none⟩ = some (.string p.s) := hbx2.cell 3
        clear hb2 hbx hbw d0 d1 d2 d3
        by_cases hk0 : p.kind = 0
        · by_cases hn0 : p.n < 0
          · go_wp2_with fail
            refine (sevens_any _ _ ?_ ?_).mono ?_
            · omega
            · omega
            rintro e w4 ⟨s2, rfl, hs2, hs2l, hb4⟩
            have hbw4 : Below w.heap.size w w4 := below_via hbw2 hb4 hbw2.size
            have hE : encL l [] = (if 20000 < sv.size + s1.size + s2.size then ([], 7) else encL (l.drop (k + 1)) (bytes (sv ++ s1 ++ s2))) := by
              have hP : encP p = bytes s1 ++ bytes s2 := by
                rw [Hs1.out, hs2.out]; rw [encP, if_pos hk0, zig_neg (by omega)]
              rw [← he.out, Hd.out, encL, if_pos hgp, hP]
              simp only [bytes_append, List.length_append, bytes_len, List.append_assoc, Nat.add_assoc]
            have HE := Lib.hid hE
            clear hE
            by_cases h20 : 20000 < sv.size + s1.size + s2.size
            · go_wp2_with fail
              go_ret2
              refine ⟨?_, hbw4⟩
              rw [HE.out, if_pos h20]; rfl
            · go_wp2_with fail
              go_roundw
              case rel =>
                refine ⟨k + 1, sv ++ s1 ++ s2, by go_num, by omega, rfl, ?_, ?_, hbw4⟩
                · show _ = _
                  rw [HE.out, if_neg h20]
                · simp only [ByteArray.size_append]; omega
              case measure => simp [intOf]; omega
          · go_wp2_with fail
            refine (sevens_any _ _ ?_ ?_).mono ?_
            · omega
            · omega
            rintro e w4 ⟨s2, rfl, hs2, hs2l, hb4⟩
            have hbw4 : Below w.heap.size w w4 := below_via hbw2 hb4 hbw2.size
            have hE : encL l [] = (if 20000 < sv.size + s1.size + s2.size then ([], 7) else encL (l.drop (k + 1)) (bytes (sv ++ s1 ++ s2))) := by
              have hP : encP p = bytes s1 ++ bytes s2 := by
                rw [Hs1.out, hs2.out]; rw [encP, if_pos hk0, zig_nn (by omega)]
              rw [← he.out, Hd.out, encL, if_pos hgp, hP]
              simp only [bytes_append, List.length_append, bytes_len, List.append_assoc, Nat.add_assoc]
            have HE := Lib.hid hE
            clear hE
            by_cases h20 : 20000 < sv.size + s1.size + s2.size
            · go_wp2_with fail
              go_ret2
              refine ⟨?_, hbw4⟩
              rw [HE.out, if_pos h20]; rfl
            · go_wp2_with fail
              go_roundw
              case rel =>
                refine ⟨k + 1, sv ++ s1 ++ s2, by go_num, by omega, rfl, ?_, ?_, hbw4⟩
                · show _ = _
                  rw [HE.out, if_neg h20]
                · simp only [ByteArray.size_append]; omega
              case measure => simp [intOf]; omega
        · go_wp2_with fail
          have hbd := below_drew hbw2
          have hbxd : Box w2.drew wr.heap.size 70 (partCells p) := hbx2
          go_region_held3 (fun w' => w'.cell? ⟨wr.heap.size, 3, none⟩ = some (.string p.s)) (first | exact e3 | exact f3 | exact f4)
            (first
              | (go_at_call 63; go_must (refine (sevens_any _ _ (by omega) (by omega)).mono ?_); rintro e w4 ⟨s2, rfl, hs2, hs2l, hb4⟩; have ha1 : ¬ 9223372036854775807 < s2.size + p.s.size := (by omega); have ha2 : ¬ 9223372036854775807 < sv.size + s1.size + (s2.size + p.s.size) := (by omega); have hbx3 : Box w4 wr.heap.size 70 (partCells p) := hbxd.below hb4 hbxd.lt; have f3 : w4.cell? ⟨wr.heap.size, 3, none⟩ = some (.string p.s) := hbx3.cell 3))
          have hbw4 : Below w.heap.size w w4 := below_via hbd hb4 hbd.size
          have hE : encL l [] = (if 20000 < sv.size + s1.size + s2.size + p.s.size then ([], 7) else encL (l.drop (k + 1)) (bytes (sv ++ s1 ++ (s2 ++ p.s)))) := by
            have hP : encP p = bytes s1 ++ (bytes s2 ++ bytes p.s) := by
              rw [Hs1.out]; rw [encP, if_neg hk0, hs2.out]; rfl
            rw [← he.out, Hd.out, encL, if_pos hgp, hP]
            simp only [bytes_append, List.length_append, bytes_len, List.append_assoc, Nat.add_assoc]
          have HE := Lib.hid hE
          clear hE
          by_cases h20 : 20000 < sv.size + s1.size + s2.size + p.s.size
          · go_wp2_with fail
            go_ret2
            refine ⟨?_, hbw4⟩
            rw [HE.out, if_pos h20]; rfl
          · go_wp2_with fail
            go_roundw
            case rel =>
              refine ⟨k + 1, sv ++ s1 ++ (s2 ++ p.s), by go_num, by omega, rfl, ?_, ?_, hbw4⟩
              · show _ = _
                rw [HE.out, if_neg h20]
              · simp only [ByteArray.size_append]; omega
            case measure => simp [intOf]; omega
      · simp only [Bool.not_eq_true] at hgp
        go_wp2_with fail
        go_ret2
        refine ⟨?_, hbw⟩
        rw [← he.out, Hd.out]
        simp [encL, hgp]
    · have hd : l.drop k = [] := List.drop_eq_nil_of_le (by omega)
      rw [hd] at he
      have hfin : encL l [] = (bytes sv, 0) := he.out.symm
      have HF := Lib.hid hfin
      clear hfin hd he
      go_wp2_with fail
      go_ret2
      refine ⟨?_, hb⟩
      rw [HF.out]; rfl
end Go.Proofs.YtockolmdffehnaaDoor
