/- wire.Encode walked. -/
import Derived.Test.YtfichobelmabeaaWireWalks
import Derived.Test.YtfichobelmabeaaArith
import Derived.Deep.RegionHeld3
namespace Go.Proofs.Ytfichobelmabeaa
open Go.RowKit

theorem RPart.fair : Fair RPart := RFlat.fair _
theorem u8_zero : (Try.prog.info? 5).bind (·.zero) = some (.int .u8 0) := by kernel_rfl
def Pair (w : World) (x y : Value) (e : Ending) (w' : World) : Prop := e = .returned (.tuple #[x, y]) ∧ Below w.heap.size w w'

set_option maxRecDepth 100000 in
set_option maxHeartbeats 400000 in
theorem encode_any (S : Nat → Prop) (vl : Value) (l : List Part) (w : World) (hl : RSl 4 40 RPart S w [vl] l) (hp : ∀ p ∈ l, p.s.size ≤ maxLen) :
    Calls Try.prog 7 #[vl] w (Pair w (.string ⟨(encL l []).1.toArray⟩) (.int .i64 (encL l []).2)) := by
  obtain ⟨A, cap, rfl, hlc, hlb⟩ := hl.form
  have hlen : l.length ≤ 9223372036854775807 := by omega
  have HL := Lib.hid hl
  have HP := Lib.hid hp
  clear hl hp
  go_enter Try.func7, Try.ntmps7
  go_wp2_with fail
  go_loopw [4, 9] (fun v i wr => ∃ (k : Nat) (acc : List UInt8), i = .int .i64 k ∧ k ≤ l.length ∧ Hid (encL (l.drop k) acc = encL l []) ∧ Own w.heap.size 5 1 RByte NoT wr v acc ∧
      acc.length ≤ 20000 ∧ Below w.heap.size w wr) (fun _ i _ => l.length - (intOf i).toNat)
  case atStart => exact ⟨0, [], rfl, by omega, rfl, Own.nil_ _ _ _ _ _ _, by simp, Below.refl _ _⟩
  case round =>
    obtain ⟨k, acc, rfl, hk, he, ho, hacc, hb⟩ := hrel
    by_cases hlt : k < l.length
    · have hd : l.drop k = l[k] :: l.drop (k + 1) := List.drop_eq_getElem_cons hlt
      obtain ⟨g, o, es, rfl, hS, hg, hes, hr, hc⟩ := ((RSl.fair RPart.fair).keep HL.out (Keep.of_below hb)).at_ hlt
      have hps := HP.out l[k] (List.getElem_mem hlt)
      obtain ⟨p, hpe⟩ : ∃ p, p = l[k] := ⟨_, rfl⟩
      rw [← hpe] at hr hd hps
      have Hd := Lib.hid hd
      have Hpe := Lib.hid hpe
      clear hd hpe
      have hr' : es = partCells p := hr
      subst hr'
      have c0 : wr.cell? ⟨g, o + k * 4, none⟩ = some (.int .i64 p.id) := hc.at_ 0 rfl
      have c1 : wr.cell? ⟨g, o + k * 4 + 1, none⟩ = some (.int .i64 p.kind) := hc.at_ 1 rfl
      have c2 : wr.cell? ⟨g, o + k * 4 + 2, none⟩ = some (.int .i64 p.n) := hc.at_ 2 rfl
      have c3 : wr.cell? ⟨g, o + k * 4 + 3, none⟩ = some (.string p.s) := hc.at_ 3 rfl
      go_wp2_with fail
      refine (wgood_any p _ hps).mono ?_
      rintro e w1 ⟨rfl, hb1⟩
      have hbx : Box w1 wr.heap.size 27 (partCells p) := (Box.new wr _ (partCells p)).below hb1 (by simp)
      have ho1 := (ho.alloc RByte.fair _).below RByte.fair hb1
      have hbw : Below w.heap.size w w1 := below_via (hb.alloc hb.size _) hb1 (by have := hb.size; simp; omega)
      have d0 : w1.cell? ⟨wr.heap.size, 0, none⟩ = some (.int .i64 p.id) := hbx.cell 0
      have d1 : w1.cell? ⟨wr.heap.size, 1, none⟩ = some (.int .i64 p.kind) := hbx.cell 1
      have d2 : w1.cell? ⟨wr.heap.size, 2, none⟩ = some (.int .i64 p.n) := hbx.cell 2
      have d3 : w1.cell? ⟨wr.heap.size, 3, none⟩ = some (.string p.s) := hbx.cell 3
      have hsz1 := hb1.size
      simp at hsz1
      clear hb1 hb ho hc c0 c1 c2 c3 hS hg hr hes
      by_cases hgp : goodP p = true
      · have hid : 1 ≤ p.id ∧ p.id ≤ 30 ∧ 0 ≤ p.kind ∧ p.kind ≤ 2 ∧ -1099511627776 ≤ p.n ∧ p.n ≤ 1099511627776 ∧ p.s.size ≤ 20000 := by
          simp [goodP] at hgp; omega
        obtain ⟨i1, i2, i3, i4, i5, i6, i7⟩ := hid
        go_wp2_with fail
        refine (put_int w.heap.size NoT _ _ _ _ ?_ ?_ ho1 (NoT.lt _) (by omega) hbw.size).mono ?_
        · rw [or_key _ _ (by omega) i2 i3 (by omega)]; omega
        · rw [or_key _ _ (by omega) i2 i3 (by omega)]; omega
        rintro e w2 ⟨v2, rfl, ho2, hg2, hn2⟩
        rw [or_key _ _ (by omega) i2 i3 (by omega)] at ho2
        have hl2 : (acc ++ sev (4 * p.id + p.kind).toNat).length ≤ 20006 := by
          rw [List.length_append]; have := sev_len6 (show (4 * p.id + p.kind).toNat < 4398046511104 by omega); omega
        have hbx2 : Box w2 wr.heap.size 27 (partCells p) := hbx.grown hg2 (hbx.ne_own ho1 (by decide))
        have hbw2 : Below w.heap.size w w2 := below_grown hbw hg2 hbw.size (fun g' h => (ho1.lt h).1)
        have e0 : w2.cell? ⟨wr.heap.size, 0, none⟩ = some (.int .i64 p.id) := hbx2.cell 0
        have e1 : w2.cell? ⟨wr.heap.size, 1, none⟩ = some (.int .i64 p.kind) := hbx2.cell 1
        have e2 : w2.cell? ⟨wr.heap.size, 2, none⟩ = some (.int .i64 p.n) := hbx2.cell 2
        have e3 : w2.cell? ⟨wr.heap.size, 3, none⟩ = some (.string p.s) := hbx2.cell 3
        have hsz2 := hg2.size
        clear hg2 hbx hbw ho1 d0 d1 d2 d3
        by_cases hk0 : p.kind = 0
        · go_wp2_with fail
          refine (put_int w.heap.size NoT v2 _ _ _ ?_ ?_ ho2 (NoT.lt _) (by omega) hbw2.size).mono ?_
          · rw [xor_zig _ i5 i6]; split <;> omega
          · rw [xor_zig _ i5 i6]; split <;> omega
          rintro e w4 ⟨v3, rfl, ho4, hg4, hn4⟩
          have hbw4 : Below w.heap.size w w4 := below_grown hbw2 hg4 hbw2.size (fun g' h => (ho2.lt h).1)
          rw [xor_zig _ i5 i6, zig_eq] at ho4
          clear hg4 hbw2 ho2 e0 e1 e2 e3
          have hE : acc ++ encP p = acc ++ sev (4 * p.id + p.kind).toNat ++ sev (zig p.n) := by simp [encP, hk0]
          rw [← hE] at ho4
          clear hE
          obtain ⟨acc3, ha3⟩ : ∃ a, a = acc ++ encP p := ⟨_, rfl⟩
          rw [← ha3] at ho4
          have HA3 := Lib.hid ha3
          clear ha3
          obtain ⟨A3, cap3, rfl, hc3⟩ := ho4.form
          have hal : acc3.length ≤ 9223372036854775807 := by
            rw [HA3.out, List.length_append]; have := encP_len p hgp; omega
          by_cases h20 : 20000 < acc3.length
          · go_wp2_with fail
            go_ret2
            refine ⟨?_, hbw4⟩
            rw [← he.out, Hd.out, encL, if_pos hgp, ← HA3.out, if_pos h20]; rfl
          · go_wp2_with fail
            go_roundw
            case rel =>
              refine ⟨k + 1, acc3, by go_num, by omega, ?_, ho4, by omega, hbw4⟩
              show _ = _
              rw [← he.out, Hd.out, encL, if_pos hgp, ← HA3.out, if_neg h20]
            case measure => simp [intOf]; omega
        · go_wp2_with fail
          have hbd := below_drew hbw2
          have hod := ho2.drew RByte.fair
          have hbxd : Box w2.drew wr.heap.size 27 (partCells p) := hbx2
          have hl3 : (acc ++ sev (4 * p.id + p.kind).toNat ++ sev p.s.size).length ≤ 20012 := by
            rw [List.length_append]; have := sev_len6 (show p.s.size < 4398046511104 by omega); omega
          have hwr : IntKind.u64.wrap (p.s.size : Int) = p.s.size := by simp only [IntKind.wrap_u64]; omega
          go_region_held3 (fun w' => w'.cell? ⟨wr.heap.size, 3, none⟩ = some (.string p.s)) (first | exact e3 | exact f3 | exact f4)
            (first
              | (go_at_call 16; go_must (refine (put_int w.heap.size NoT v2 _ _ _ (by omega) (by omega) hod (NoT.lt _) (by omega) hbd.size).mono ?_); rintro e w3 ⟨v3, rfl, ho3, hg3, hn3⟩; have hbw3 : Below w.heap.size w w3 := below_grown hbd hg3 hbd.size (fun g' h => (hod.lt h).1); have hbx3 : Box w3 wr.heap.size 27 (partCells p) := hbxd.grown hg3 (hbxd.ne_own hod (by decide)); have f3 : w3.cell? ⟨wr.heap.size, 3, none⟩ = some (.string p.s) := hbx3.cell 3; rw [show ((p.s.size : Int)).toNat = p.s.size from by omega] at ho3)
              | (refine step_append_str _ rfl (.tmp 44) (.tmp 46) rfl sl_bytes u8_zero Try.underlying9 rfl rfl ho3 (NoT.lt _) (by omega) hbw3.size ?_; intro v4 w4 ho4 hg4 hv4; have hbw4 : Below w.heap.size w w4 := below_grown hbw3 hg4 hbw3.size (fun g' h => (ho3.lt h).1); have f4 : w4.cell? ⟨wr.heap.size, 3, none⟩ = some (.string p.s) := (hbx3.grown hg4 (hbx3.ne_own ho3 (by decide))).cell 3))
          clear hwr
          have hE : acc ++ encP p = acc ++ sev (4 * p.id + p.kind).toNat ++ sev p.s.size ++ bytes p.s := by simp [encP, hk0]
          rw [← hE] at ho4
          clear hE
          obtain ⟨acc3, ha3⟩ : ∃ a, a = acc ++ encP p := ⟨_, rfl⟩
          rw [← ha3] at ho4
          have HA3 := Lib.hid ha3
          clear ha3
          obtain ⟨A3, cap3, rfl, hc3⟩ := ho4.form
          have hal : acc3.length ≤ 9223372036854775807 := by
            rw [HA3.out, List.length_append]; have := encP_len p hgp; omega
          by_cases h20 : 20000 < acc3.length
          · go_wp2_with fail
            go_ret2
            refine ⟨?_, hbw4⟩
            rw [← he.out, Hd.out, encL, if_pos hgp, ← HA3.out, if_pos h20]; rfl
          · go_wp2_with fail
            go_roundw
            case rel =>
              refine ⟨k + 1, acc3, by go_num, by omega, ?_, ho4, by omega, hbw4⟩
              show _ = _
              rw [← he.out, Hd.out, encL, if_pos hgp, ← HA3.out, if_neg h20]
            case measure => simp [intOf]; omega
      · simp only [Bool.not_eq_true] at hgp
        go_wp2_with fail
        go_ret2
        refine ⟨?_, hbw⟩
        rw [← he.out, Hd.out]
        simp [encL, hgp]
    · have hd : l.drop k = [] := List.drop_eq_nil_of_le (by omega)
      rw [hd] at he
      have hfin : encL l [] = (acc, 0) := he.out.symm
      have HF := Lib.hid hfin
      clear hfin hd he
      have hst := fun W v (ho' : Own w.heap.size 5 1 RByte NoT W v acc) => run_string_of (P := Try.prog) W (t := 35) (u := 9) Try.underlying35 Try.underlying5 Try.underlying9 ho'
      go_wp2_with fail
      go_ret2
      refine ⟨?_, hb⟩
      rw [HF.out]; rfl
end Go.Proofs.Ytfichobelmabeaa
