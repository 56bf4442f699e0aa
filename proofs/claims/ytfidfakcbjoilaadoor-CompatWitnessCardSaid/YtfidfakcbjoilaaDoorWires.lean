/- Several texts of walks and laws in one file; what each proves stands at its head. -/
import Derived.Test.YtfidfakcbjoilaaDoorProg
import Derived.Test.YtfidfakcbjoilaaDoorBase
import Derived.Deep.RegionHeld3
set_option linter.all false
set_option maxRecDepth 100000
set_option maxHeartbeats 8000000
namespace Go.Proofs.YtfidfakcbjoilaaDoor
open Go.RowKit
def partCells (p : Part) : List Value := [.int .i64 p.id, .int .i64 p.kind, .int .i64 p.n, .string p.s]
abbrev partV (p : Part) : Value := .agg #[.int .i64 p.id, .int .i64 p.kind, .int .i64 p.n, .string p.s]
def RPart : Rel Part := RFlat partCells
theorem toList_isEmpty (s : ByteArray) : s.toList.isEmpty = decide (s.size = 0) := by
 rw [ByteArray.toList_eq]; obtain ⟨⟨l⟩⟩ := s
 cases l <;> simp [ByteArray.size]
theorem ret_bool {a b : Bool} (h : a = b) : Ending.returned (.bool a) = .returned (.bool b) := by rw [h]
theorem ret_int {k : IntKind} {a b : Int} (h : a = b) : Ending.returned (.int k a) = .returned (.int k b) := by rw [h]
theorem wgood_any (p : Part) (w : World) (hs : p.s.size ≤ maxLen) :
  Calls Tryd.prog 70 #[partV p] w (Ret w (.bool (goodP p))) := by
 unfold maxLen at hs
 obtain ⟨id, kind, n, s⟩ := p
 go_enter Tryd.func70, Tryd.ntmps70
 go_wp2
 all_goals
  go_ret
  refine ⟨ret_bool ?_, by simpa using (Below.refl _ _).alloc (Nat.le_refl _) _⟩
  go_tidy
  rw [Bool.eq_iff_iff]
  simp [goodP, toList_isEmpty] at *
  first | omega | (constructor <;> intro h <;> first | exact ⟨by omega, .inl ⟨by assumption, h⟩⟩ | (rcases h with ⟨_, h | h⟩ <;> first | exact h.2 | omega))
theorem sl_bytes : SlInfo Tryd.prog 121 5 1 1 := .mk (z := .int .u8 0) Tryd.underlying121 (by decide) (by decide) (by kernel_rfl) rfl
theorem or128 (m : Nat) : bits .or .u8 ((m : Int) % 256) 128 = ((m % 128 + 128 : Nat) : Int) := by
 have h : ∀ k : Fin 256, bits .or .u8 (k.val : Int) 128 = ((k.val % 128 + 128 : Nat) : Int) := by decide +kernel
 have := h ⟨m % 256, by omega⟩
 simp only at this
 rw [show ((m : Int) % 256) = ((m % 256 : Nat) : Int) from by omega, this]
 omega
theorem put_any (base : Nat) (T : Nat → Prop) (v : Value) (xs : List UInt8) (n : Nat) (w : World) (hn : n < 18446744073709551616)
  (hown : Own base 5 1 RByte T w v xs) (hT : ∀ g, T g → g < w.heap.size) (hx : xs.length ≤ 1000000) (hb : base ≤ w.heap.size) :
  Calls Tryd.prog 71 #[v, .int .u64 n] w fun e w' => ∃ v', e = .returned v' ∧ Own base 5 1 RByte T w' v' (xs ++ sev n) ∧ w.grownBy w' v.ownBlock ∧ Newer w v.ownBlock v' := by
 go_enter Tryd.func71, Tryd.ntmps71
 go_wp2
 have Hn := Lib.hid hn
 clear hn
 have HT := Lib.hid hT
 clear hT
 go_loopw [0, 1] (fun v1 i wr => ∃ (m : Nat) (ys : List UInt8), i = .int .u64 m ∧ m ≤ n ∧ Hid (ys ++ sev m = xs ++ sev n) ∧ Own base 5 1 RByte T wr v1 ys ∧
   w.grownBy wr v.ownBlock ∧ Newer w v.ownBlock v1) (fun _ i _ => (intOf i).toNat)
 case atStart => exact ⟨n, xs, rfl, Nat.le_refl _, rfl, hown, World.grownBy.refl _ _, .inl rfl⟩
 case round =>
  obtain ⟨m, ys, rfl, hmn, he, ho, hg, hv⟩ := hrel
  have hyl : ys.length ≤ 1000010 := by
   have h1 := congrArg List.length he.out
   have h2 := sev_len10 Hn.out
   simp only [List.length_append] at h1; omega
  have hTr : ∀ g, T g → g < wr.heap.size := fun g hg' => Nat.lt_of_lt_of_le (HT.out g hg') hg.size
  have HTr := Lib.hid hTr
  clear hTr
  by_cases hm : m < 128
  ·go_wp2_with (first | (at_builtin; refine wl_append _ rfl (.tmp 15) (.tmp 18) rfl sl_bytes RByte.fair rfl rfl (ho.alloc RByte.fair _) (Src.one (es := [.int .u8 m]) (y := UInt8.ofNat m) rfl (Ones.of_all rfl) ?_ (Lies.new _ _ _)) ?_ ?_ ?_ ?_))
   ·show [_] = [_]
    simp; omega
   ·intro g hg'; have := HTr.out g hg'; simp; omega
   ·simp; omega
   ·have := hg.size; simp; omega
   ·intro v2 w2 ho2 hg2 hv2
    go_wp2_with fail
    go_ret
    refine ⟨v2, rfl, ?_, grown_via (grown_alloc hg _) hg2 hv, hv.step hv2 hg.size (by simp)⟩
    rw [← he.out, sev_lt hm]
    exact ho2
  ·obtain ⟨y, hy⟩ : ∃ y, y = UInt8.ofNat (m % 128 + 128) := ⟨_, rfl⟩
   have Hy := Lib.hid hy
   clear hy
   go_wp2_with (first | (at_builtin; refine wl_append _ rfl (.tmp 7) (.tmp 11) rfl sl_bytes RByte.fair rfl rfl (ho.alloc RByte.fair _) (Src.one (es := [.int .u8 (bits .or .u8 ((m : Int) % 256) 128)]) (y := y) rfl (Ones.of_all rfl) ?_ (Lies.new _ _ _)) ?_ ?_ ?_ ?_))
   ·show [_] = [_]
    rw [or128, Hy.out]; simp; omega
   ·intro g hg'; have := HTr.out g hg'; simp; omega
   ·simp; omega
   ·have := hg.size; simp; omega
   ·intro v2 w2 ho2 hg2 hv2
    go_wp2_with fail
    go_roundw
    case rel =>
     refine ⟨m / 128, ys ++ [y], by go_num, by omega, ?_, ho2, grown_via (grown_alloc hg _) hg2 hv, hv.step hv2 hg.size (by simp)⟩
     show _ = _
     rw [List.append_assoc, ← he.out, sev_ge hm, Hy.out]; rfl
    case measure => simp [intOf]; omega
theorem put_int (base : Nat) (T : Nat → Prop) (v : Value) (xs : List UInt8) (n : Int) (w : World) (h0 : 0 ≤ n) (hn : n < 18446744073709551616)
  (hown : Own base 5 1 RByte T w v xs) (hT : ∀ g, T g → g < w.heap.size) (hx : xs.length ≤ 1000000) (hb : base ≤ w.heap.size) :
  Calls Tryd.prog 71 #[v, .int .u64 n] w fun e w' => ∃ v', e = .returned v' ∧ Own base 5 1 RByte T w' v' (xs ++ sev n.toNat) ∧ w.grownBy w' v.ownBlock ∧ Newer w v.ownBlock v' := by
 obtain ⟨m, rfl⟩ := Int.eq_ofNat_of_zero_le h0
 exact put_any base T v xs m w (by omega) hown hT hx hb
end Go.Proofs.YtfidfakcbjoilaaDoor
namespace Go.Proofs.YtfidfakcbjoilaaDoor
open Go.RowKit
theorem RPart.fair : Fair RPart := RFlat.fair _
theorem u8_zero : (Tryd.prog.info? 5).bind (·.zero) = some (.int .u8 0) := by kernel_rfl
def Pair (w : World) (x y : Value) (e : Ending) (w' : World) : Prop := e = .returned (.tuple #[x, y]) ∧ Below w.heap.size w w'
theorem encode_any (S : Nat → Prop) (vl : Value) (l : List Part) (w : World) (hl : RSl 4 40 RPart S w [vl] l) (hp : ∀ p ∈ l, p.s.size ≤ maxLen) :
  Calls Tryd.prog 44 #[vl] w (Pair w (.string ⟨(encL l []).1.toArray⟩) (.int .i64 (encL l []).2)) := by
 obtain ⟨A, cap, rfl, hlc, hlb⟩ := hl.form
 have hlen : l.length ≤ 9223372036854775807 := by omega
 have HL := Lib.hid hl
 have HP := Lib.hid hp
 clear hl hp
 go_enter Tryd.func44, Tryd.ntmps44
 go_wp2_with fail
 go_loopw [4, 9] (fun v i wr => ∃ (k : Nat) (acc : List UInt8), i = .int .i64 k ∧ k ≤ l.length ∧ Hid (encL (l.drop k) acc = encL l []) ∧ Own w.heap.size 5 1 RByte NoT wr v acc ∧
   acc.length ≤ 20000 ∧ Below w.heap.size w wr) (fun _ i _ => l.length - (intOf i).toNat)
 case atStart => exact ⟨0, [], rfl, by omega, rfl, Own.nil_ _ _ _ _ _ _, by simp, Below.refl _ _⟩
 case round =>
  obtain ⟨k, acc, rfl, hk, he, ho, hacc, hb⟩ := hrel
  by_cases hlt : k < l.length
  ·have hd : l.drop k = l[k] :: l.drop (k + 1) := List.drop_eq_getElem_cons hlt
   obtain ⟨g, o, es, rfl, hS, hg, hes, hr, hc⟩ := ((RSl.fair RPart.fair).keep HL.out (Keep.of_below hb)).at_ hlt
   have hps := HP.out l[k] (List.getElem_mem hlt)
   obtain ⟨p, hpe⟩ : ∃ p, p = l[k] := ⟨_, rfl⟩
   rw [← hpe] at hr hd hps
   have Hd := Lib.hid hd
   have Hpe := Lib.hid hpe
   clear hd hpe
   have hr' : es = partCells p := hr
   subst hr'
   have c0 : wr.cell? ⟨g, o + k * 4, none⟩ = some (.int .i64 p.id) := hc.at_ 0 rfl
   have c1 : wr.cell? ⟨g, o + k * 4 + 1, none⟩ = some (.int .i64 p.kind) := hc.at_ 1 rfl
   have c2 : wr.cell? ⟨g, o + k * 4 + 2, none⟩ = some (.int .i64 p.n) := hc.at_ 2 rfl
   have c3 : wr.cell? ⟨g, o + k * 4 + 3, none⟩ = some (.string p.s) := hc.at_ 3 rfl
   go_wp2_with fail
   refine (wgood_any p _ hps).mono ?_
   rintro e w1 ⟨rfl, hb1⟩
   have hbx : Box w1 wr.heap.size 92 (partCells p) := (Box.new wr _ (partCells p)).below hb1 (by simp)
   have ho1 := (ho.alloc RByte.fair _).below RByte.fair hb1
   have hbw : Below w.heap.size w w1 := below_via (hb.alloc hb.size _) hb1 (by have := hb.size; simp; omega)
   have d0 : w1.cell? ⟨wr.heap.size, 0, none⟩ = some (.int .i64 p.id) := hbx.cell 0
   have d1 : w1.cell? ⟨wr.heap.size, 1, none⟩ = some (.int .i64 p.kind) := hbx.cell 1
   have d2 : w1.cell? ⟨wr.heap.size, 2, none⟩ = some (.int .i64 p.n) := hbx.cell 2
   have d3 : w1.cell? ⟨wr.heap.size, 3, none⟩ = some (.string p.s) := hbx.cell 3
   have hsz1 := hb1.size
   simp at hsz1
   clear hb1 hb ho hc c0 c1 c2 c3 hS hg hr hes
   by_cases hgp : goodP p = true
   ·have hid : 1 ≤ p.id ∧ p.id ≤ 30 ∧ 0 ≤ p.kind ∧ p.kind ≤ 2 ∧ -1099511627776 ≤ p.n ∧ p.n ≤ 1099511627776 ∧ p.s.size ≤ 20000 := by
     simp [goodP] at hgp; omega
    obtain ⟨i1, i2, i3, i4, i5, i6, i7⟩ := hid
    go_wp2_with fail
    refine (put_int w.heap.size NoT _ _ _ _ ?_ ?_ ho1 (NoT.lt _) (by omega) hbw.size).mono ?_
    ·rw [or_key _ _ (by omega) i2 i3 (by omega)]; omega
    ·rw [or_key _ _ (by omega) i2 i3 (by omega)]; omega
    rintro e w2 ⟨v2, rfl, ho2, hg2, hn2⟩
    rw [or_key _ _ (by omega) i2 i3 (by omega)] at ho2
    have hl2 : (acc ++ sev (4 * p.id + p.kind).toNat).length ≤ 20006 := by
     rw [List.length_append]; have := sev_len6 (show (4 * p.id + p.kind).toNat < 4398046511104 by omega); omega
    have hbx2 : Box w2 wr.heap.size 92 (partCells p) := hbx.grown hg2 (hbx.ne_own ho1 (by decide))
    have hbw2 : Below w.heap.size w w2 := below_grown hbw hg2 hbw.size (fun g' h => (ho1.lt h).1)
    have e0 : w2.cell? ⟨wr.heap.size, 0, none⟩ = some (.int .i64 p.id) := hbx2.cell 0
    have e1 : w2.cell? ⟨wr.heap.size, 1, none⟩ = some (.int .i64 p.kind) := hbx2.cell 1
    have e2 : w2.cell? ⟨wr.heap.size, 2, none⟩ = some (.int .i64 p.n) := hbx2.cell 2
    have e3 : w2.cell? ⟨wr.heap.size, 3, none⟩ = some (.string p.s) := hbx2.cell 3
    have hsz2 := hg2.size
    clear hg2 hbx hbw ho1 d0 d1 d2 d3
    by_cases hk0 : p.kind = 0
    ·go_wp2_with fail
     refine (put_int w.heap.size NoT v2 _ _ _ ?_ ?_ ho2 (NoT.lt _) (by omega) hbw2.size).mono ?_
     ·rw [xor_zig _ i5 i6]; split <;> omega
     ·rw [xor_zig _ i5 i6]; split <;> omega
     rintro e w4 ⟨v3, rfl, ho4, hg4, hn4⟩
     have hbw4 : Below w.heap.size w w4 := below_grown hbw2 hg4 hbw2.size (fun g' h => (ho2.lt h).1)
     rw [xor_zig _ i5 i6, zig_eq] at ho4
     clear hg4 hbw2 ho2 e0 e1 e2 e3
     have hE : acc ++ encP p = acc ++ sev (4 * p.id + p.kind).toNat ++ sev (zig p.n) := by simp [encP, hk0]
     rw [← hE] at ho4
     clear hE
     obtain ⟨acc3, ha3⟩ : ∃ a, a = acc ++ encP p := ⟨_, rfl⟩
     rw [← ha3] at ho4
     have HA3 := Lib.hid ha3
     clear ha3
     obtain ⟨A3, cap3, rfl, hc3⟩ := ho4.form
     have hal : acc3.length ≤ 9223372036854775807 := by
      rw [HA3.out, List.length_append]; have := encP_len p hgp; omega
     by_cases h20 : 20000 < acc3.length
     ·go_wp2_with fail
      go_ret2
      refine ⟨?_, hbw4⟩
      rw [← he.out, Hd.out, encL, if_pos hgp, ← HA3.out, if_pos h20]; rfl
     ·go_wp2_with fail
      go_roundw
      case rel =>
       refine ⟨k + 1, acc3, by go_num, by omega, ?_, ho4, by omega, hbw4⟩
       show _ = _
       rw [← he.out, Hd.out, encL, if_pos hgp, ← HA3.out, if_neg h20]
      case measure => simp [intOf]; omega
    ·go_wp2_with fail
     have hbd := below_drew hbw2
     have hod := ho2.drew RByte.fair
     have hbxd : Box w2.drew wr.heap.size 92 (partCells p) := hbx2
     have hl3 : (acc ++ sev (4 * p.id + p.kind).toNat ++ sev p.s.size).length ≤ 20012 := by
      rw [List.length_append]; have := sev_len6 (show p.s.size < 4398046511104 by omega); omega
     have hwr : IntKind.u64.wrap (p.s.size : Int) = p.s.size := by simp only [IntKind.wrap_u64]; omega
     go_region_held3 (fun w' => w'.cell? ⟨wr.heap.size, 3, none⟩ = some (.string p.s)) (first | exact e3 | exact f3 | exact f4)
      (first
       | (go_at_call 71; go_must (refine (put_int w.heap.size NoT v2 _ _ _ (by omega) (by omega) hod (NoT.lt _) (by omega) hbd.size).mono ?_); rintro e w3 ⟨v3, rfl, ho3, hg3, hn3⟩; have hbw3 : Below w.heap.size w w3 := below_grown hbd hg3 hbd.size (fun g' h => (hod.lt h).1); have hbx3 : Box w3 wr.heap.size 92 (partCells p) := hbxd.grown hg3 (hbxd.ne_own hod (by decide)); have f3 : w3.cell? ⟨wr.heap.size, 3, none⟩ = some (.string p.s) := hbx3.cell 3; rw [show ((p.s.size : Int)).toNat = p.s.size from by omega] at ho3)
       | (refine step_append_str _ rfl (.tmp 44) (.tmp 46) rfl sl_bytes u8_zero Tryd.underlying9 rfl rfl ho3 (NoT.lt _) (by omega) hbw3.size ?_; intro v4 w4 ho4 hg4 hv4; have hbw4 : Below w.heap.size w w4 := below_grown hbw3 hg4 hbw3.size (fun g' h => (ho3.lt h).1); have f4 : w4.cell? ⟨wr.heap.size, 3, none⟩ = some (.string p.s) := (hbx3.grown hg4 (hbx3.ne_own ho3 (by decide))).cell 3))
     clear hwr
     have hE : acc ++ encP p = acc ++ sev (4 * p.id + p.kind).toNat ++ sev p.s.size ++ bytes p.s := by simp [encP, hk0]
     rw [← hE] at ho4
     clear hE
     obtain ⟨acc3, ha3⟩ : ∃ a, a = acc ++ encP p := ⟨_, rfl⟩
     rw [← ha3] at ho4
     have HA3 := Lib.hid ha3
     clear ha3
     obtain ⟨A3, cap3, rfl, hc3⟩ := ho4.form
     have hal : acc3.length ≤ 9223372036854775807 := by
      rw [HA3.out, List.length_append]; have := encP_len p hgp; omega
     by_cases h20 : 20000 < acc3.length
     ·go_wp2_with fail
      go_ret2
      refine ⟨?_, hbw4⟩
      rw [← he.out, Hd.out, encL, if_pos hgp, ← HA3.out, if_pos h20]; rfl
     ·go_wp2_with fail
      go_roundw
      case rel =>
       refine ⟨k + 1, acc3, by go_num, by omega, ?_, ho4, by omega, hbw4⟩
       show _ = _
       rw [← he.out, Hd.out, encL, if_pos hgp, ← HA3.out, if_neg h20]
      case measure => simp [intOf]; omega
   ·simp only [Bool.not_eq_true] at hgp
    go_wp2_with fail
    go_ret2
    refine ⟨?_, hbw⟩
    rw [← he.out, Hd.out]
    simp [encL, hgp]
  ·have hd : l.drop k = [] := List.drop_eq_nil_of_le (by omega)
   rw [hd] at he
   have hfin : encL l [] = (acc, 0) := he.out.symm
   have HF := Lib.hid hfin
   clear hfin hd he
   have hst := fun W v (ho' : Own w.heap.size 5 1 RByte NoT W v acc) => run_string_of (P := Tryd.prog) W (t := 121) (u := 9) Tryd.underlying121 Tryd.underlying5 Tryd.underlying9 ho'
   go_wp2_with fail
   go_ret2
   refine ⟨?_, hb⟩
   rw [HF.out]; rfl
end Go.Proofs.YtfidfakcbjoilaaDoor
namespace Go.Proofs.YtfidfakcbjoilaaDoor
open Go.RowKit
theorem part_guard : Tryd.prog.eqGuardType Tryd.prog.depth 92 = false := by kernel_rfl
theorem part_fields : Tryd.prog.underlying 92 = some (.struct (Tryd.prog.fieldsOf 92)) := by kernel_rfl
theorem part_held : Tryd.prog.stoodInHeld 92 = false := by kernel_rfl
theorem run_neq_part (p q : Part) (W : World) : (binOp .neq 92 (partV p) (partV q)).run Tryd.prog W = .ok (.bool (!decide (p = q))) W := by
 obtain ⟨a, b, c, d⟩ := p
 obtain ⟨a', b', c', d'⟩ := q
 have h := run_equalIn_agg (P := Tryd.prog) W 9999 92 #[.int .i64 a, .int .i64 b, .int .i64 c, .string d] #[.int .i64 a', .int .i64 b', .int .i64 c', .string d'] part_fields part_held
 rw [run_neq_struct, h]
 have hs : (d.toList = d'.toList) ↔ d = d' := by
  rw [ByteArray.toList_eq, ByteArray.toList_eq]
  obtain ⟨⟨l⟩⟩ := d
  obtain ⟨⟨l'⟩⟩ := d'
  simp
 simp [go_sem, hs]
 by_cases h1 : a = a' <;> by_cases h2 : b = b' <;> by_cases h3 : c = c' <;> by_cases h4 : d = d' <;> simp [h1, h2, h3, h4]
theorem sl_parts : SlInfo Tryd.prog 90 92 4 40 := .mk (z := .agg #[.int .i64 0, .int .i64 0, .int .i64 0, .string .empty]) Tryd.underlying90 (by decide) (by decide) (by kernel_rfl) rfl
theorem RPart.ones : OneCells RPart := by
 intro S w cs x h
 have h' : cs = partCells x := h
 subst h'
 exact Ones.of_all rfl
def P1 : Part := ⟨1, 0, -1, ⟨#[]⟩⟩
def P2 : Part := ⟨2, 1, 0, ⟨#[97]⟩⟩
theorem encP_one : encP P1 = [4, 1] := by
 show sev 4 ++ sev 1 = _
 rw [sev_lt (by decide), sev_lt (by decide)]; rfl
theorem encP_two : encP P2 = [9, 1, 97] := by
 show sev 9 ++ (sev 1 ++ [97]) = _
 rw [sev_lt (by decide), sev_lt (by decide)]; rfl
theorem encL_two : encL [P1, P2] [] = ([4, 1, 9, 1, 97], 0) := by
 rw [encL, if_pos (by decide), encP_one, if_neg (by decide), encL, if_pos (by decide), encP_two, if_neg (by decide), encL]; rfl
end Go.Proofs.YtfidfakcbjoilaaDoor
namespace Go.Proofs.YtfidfakcbjoilaaDoor
open Go.RowKit
def GetPost (g : Nat) (s : ByteArray) (bad : Bool) (w : World) (e : Ending) (w' : World) : Prop :=
 ∃ s' : ByteArray, e = .returned (.int .u64 (getF (bytes s)).1) ∧ Hid (bytes s' = (bytes s).drop (getF (bytes s)).2.1) ∧
   Box w' g 129 [.string s', .bool (bad || (getF (bytes s)).2.2)] ∧ w.grownBy w' (some g)
theorem get_fin {g : Nat} {s : ByteArray} {bad b : Bool} {w : World} {k n : Nat} {x : Int} (hbx : Box w g 129 [.string s, .bool bad])
  (he : getGo (bytes s) (6 - k) k n = getF (bytes s)) (h6 : k < 6) (hk : k < (bytes s).length) (hc : (bytes s)[k].toNat < 128) (hn : n < 128 ^ k)
  (hx : x = bits .or .u64 (n : Int) (IntKind.u64.wrap (IntKind.u64.wrap (bits .and .u8 ((bytes s)[k].toNat : Int) 127) * 2 ^ (7 * k))))
  (hb : b = (bad || decide ((bytes s)[k].toNat = 0 ∧ 0 < k))) :
  GetPost g s bad w (.returned (.int .u64 x)) ((w.setCell ⟨g, 1, none⟩ (.bool b)).setCell ⟨g, 0, none⟩ (.string (s.extract (k + 1) s.size))) := by
 have hres := getGo_hit (n := n) h6 hk hc
 rw [he] at hres
 refine ⟨s.extract (k + 1) s.size, ?_, ?_, ?_, ?_⟩
 ·rw [hres, hx, or_sev n _ k h6 hn (bytes s)[k].toNat_lt]
  simp only
  rw [Nat.mod_eq_of_lt hc]
 ·show _ = _
  rw [hres, bytes_from]
 ·rw [hres]
  subst hb
  exact (hbx.set_ 1 _).set_ 0 _
 ·exact grown_setCell (p := ⟨g, 0, none⟩) (grown_setCell (p := ⟨g, 1, none⟩) (World.grownBy.refl _ _) (.inl rfl) _) (.inl rfl) _
theorem get_any (g : Nat) (s : ByteArray) (bad : Bool) (w : World) (_hs : s.size ≤ 20000) (hbx : Box w g 129 [.string s, .bool bad]) :
  Calls Tryd.prog 75 #[.pointer (some ⟨g, 0, none⟩)] w (GetPost g s bad w) := by
 have c0 : w.cell? ⟨g, 0, none⟩ = some (.string s) := hbx.cell 0
 have c1 : w.cell? ⟨g, 1, none⟩ = some (.bool bad) := hbx.cell 1
 have f0 : w.frozen? ⟨g, 0, none⟩ = false := hbx.frozen 0
 have f1 : w.frozen? ⟨g, 1, none⟩ = false := hbx.frozen 1
 have HB := Lib.hid hbx
 clear hbx
 go_enter Tryd.func75, Tryd.ntmps75
 go_wp2_with fail
 go_loop [3, 4] (fun v i => ∃ (k n : Nat), i = .int .i64 k ∧ k ≤ 6 ∧ v = .int .u64 n ∧ Hid (n < 128 ^ k) ∧ Hid (getGo (bytes s) (6 - k) k n = getF (bytes s))) (fun _ i => 6 - (intOf i).toNat)
 case atStart => exact ⟨0, 0, rfl, by omega, rfl, (by decide : 0 < 128 ^ 0), rfl⟩
 case round =>
  obtain ⟨k, n, rfl, hk, rfl, hn, he⟩ := hrel
  by_cases hlt : k < 6 ∧ k < s.size
  ·obtain ⟨h6, hks⟩ := hlt
   by_cases hc : s[k].toNat < 128
   ·cases bad
    ·go_wp2_with fail
     all_goals
      go_ret
      exact get_fin (n := n) HB.out he.out h6 hks hc hn.out (by first | rfl | (rw [show (bytes s)[k].toNat = 0 from by assumption]; rfl)) (by rw [show (bytes s)[k].toNat = s[k].toNat from rfl, eq_comm, Bool.eq_iff_iff]; simp only [Bool.false_or, Bool.or_eq_true, decide_eq_true_eq, Bool.true_or, beq_iff_eq, Bool.false_eq_true, iff_false, iff_true]; omega)
    ·go_wp2_with fail
     all_goals
      go_ret
      exact get_fin (n := n) HB.out he.out h6 hks hc hn.out (by first | rfl | (rw [show (bytes s)[k].toNat = 0 from by assumption]; rfl) | (rw [show (bytes s)[0].toNat = 0 from by assumption]; rfl)) (by first | (rw [show (bytes s)[k].toNat = s[k].toNat from rfl]; simp [*]; done) | (rw [show (bytes s)[0].toNat = s[0].toNat from rfl]; simp [*]; done) | simp)
   ·go_wp2_with fail
    go_round
    case rel =>
     have hres := getGo_on (n := n) h6 hks hc
     refine ⟨k + 1, n + s[k].toNat % 128 * 128 ^ k, by go_num, by omega, by rw [or_sev n _ k h6 hn.out s[k].toNat_lt], ?_, ?_⟩
     ·have := hn.out
      show _ < _
      rw [Nat.pow_succ]
      have h3 : (s[k].toNat % 128) * 128 ^ k ≤ 127 * 128 ^ k := Nat.mul_le_mul_right _ (by omega)
      omega
     ·show _ = _
      rw [← he.out, hres]; rfl
    case measure => simp [intOf]; omega
  ·have hres := getGo_end (s := bytes s) (n := n) hk hlt
   rw [he.out] at hres
   have Hres := Lib.hid hres
   clear hres
   have fin : GetPost g s bad w (.returned (.int .u64 0)) (w.setCell ⟨g, 1, none⟩ (.bool true)) := by
    refine ⟨s, ?_, ?_, ?_, ?_⟩
    ·rw [Hres.out]; rfl
    ·show _ = _
     rw [Hres.out]; rfl
    ·rw [Hres.out]; simpa using HB.out.set_ 1 (.bool true)
    ·exact grown_setCell (p := ⟨g, 1, none⟩) (World.grownBy.refl _ _) (.inl rfl) _
   have Fin := Lib.hid fin
   clear fin
   by_cases h6 : k < 6
   ·go_wp2_with fail
    all_goals
     go_ret
     exact Fin.out
   ·go_wp2_with fail
    all_goals
     go_ret
     exact Fin.out
end Go.Proofs.YtfidfakcbjoilaaDoor
namespace Go.Proofs.YtfidfakcbjoilaaDoor
open Go.RowKit
def DecPost (w : World) (r : List Part × Int) (e : Ending) (w' : World) : Prop :=
 ∃ v, e = .returned (.tuple #[v, .int .i64 r.2]) ∧ RSl 4 40 RPart (fun g => w.heap.size ≤ g) w' [v] r.1 ∧ Below w.heap.size w w' ∧ (∀ p ∈ r.1, p.s.size ≤ 20000) ∧ r.1.length ≤ 20000
theorem decode_any (s : ByteArray) (w : World) (hs : s.size ≤ maxLen) :
  Calls Tryd.prog 49 #[.string s] w (DecPost w (decF (bytes s))) := by
 unfold maxLen at hs
 by_cases hlong : 20000 < s.size
 ·go_enter Tryd.func49, Tryd.ntmps49
  go_wp2_with fail
  go_ret2
  have : decF (bytes s) = ([], 7) := by rw [decF, if_pos (show 20000 < (bytes s).length from hlong)]
  rw [this]
  exact ⟨_, rfl, RSl.nil_, Below.refl _ _, by simp, by simp⟩
 ·have hd : decF (bytes s) = decL (bytes s).length (bytes s) [] := by rw [decF, if_neg (show ¬ 20000 < (bytes s).length from hlong)]
  have Hd := Lib.hid hd
  clear hd
  go_enter Tryd.func49, Tryd.ntmps49
  go_wp2_with fail
  go_loopw [5] (fun v wr => ∃ (rs : ByteArray) (acc : List Part), Own w.heap.size 92 4 RPart NoT wr v acc ∧ Box wr w.heap.size 129 [.string rs, .bool false] ∧ v.ownBlock ≠ some w.heap.size ∧
    Hid (decL (bytes rs).length (bytes rs) acc = decF (bytes s)) ∧ acc.length + rs.size ≤ 20000 ∧ (∀ p ∈ acc, p.s.size ≤ 20000) ∧ Below w.heap.size w wr) (fun _ wr => strLen wr w.heap.size)
  case atStart => exact ⟨s, [], Own.nil_ _ _ _ _ _ _, Box.new w _ [.string s, .bool false], by simp [Value.ownBlock], Hd.out.symm, by simp; omega, by simp, (Below.refl _ _).alloc (Nat.le_refl _) _⟩
  case round =>
   obtain ⟨rs, acc, ho, hbx, hvg, he, hacc, hps, hb⟩ := hrel
   have c0 : wr.cell? ⟨w.heap.size, 0, none⟩ = some (.string rs) := hbx.cell 0
   by_cases hemp : rs.size = 0
   ·have hemp' : rs.toList.isEmpty = true := by rw [toList_isEmpty]; simpa using hemp
    go_wp2_with fail
    go_ret2
    have hrs : bytes rs = [] := List.eq_nil_of_length_eq_zero hemp
    rw [hrs, decL_nil] at he
    rw [← he.out]
    refine ⟨_, rfl, ho.read RPart.fair (fun g h => h.elim) (fun k hk => (ho.lt hk).1) (by show acc.length * 40 ≤ _; omega), hb, hps, by show acc.length ≤ _; omega⟩
   ·have hemp' : rs.toList.isEmpty = false := by rw [toList_isEmpty]; simpa using hemp
    go_wp2_with fail
    refine (get_any w.heap.size rs false _ (by omega) hbx).mono ?_
    rintro e w1 ⟨s1, rfl, hs1, hbx1, hg1⟩
    have hkey := getF_lt (bytes rs)
    have hm1 := getF_len (bytes rs)
    generalize hr1 : getF (bytes rs) = r1 at *
    obtain ⟨key, m1, b1⟩ := r1
    simp only [Bool.false_or] at hs1 hbx1 hkey hm1
    have HR1 := Lib.hid hr1
    clear hr1
    have hk3 := and3 key (by omega)
    have ho1 : Own w.heap.size 92 4 RPart NoT w1 _ acc := ho.kept RPart.fair hg1 (.inr hvg) (fun k _ h => h)
    have hw1 : Below w.heap.size w w1 := below_grown hb hg1 hb.size (by rintro k hk; cases hk; exact Nat.le_refl _)
    have hgw : w.heap.size < w1.heap.size := hbx1.lt
    have hs1l : s1.size ≤ 20000 := by
     have := congrArg List.length hs1.out
     simp only [bytes_len, List.length_drop] at this; omega
    have Hc0 := Lib.hid c0
    clear hg1 hb ho hbx c0
    have hbp : Box (w1.alloc (.cells #[.int .i64 ((key / 4 : Nat) : Int), .int .i64 ((key % 4 : Nat) : Int), .int .i64 0, .string ⟨#[]⟩] 92)) w1.heap.size 92 [.int .i64 ((key / 4 : Nat) : Int), .int .i64 ((key % 4 : Nat) : Int), .int .i64 0, .string ⟨#[]⟩] := Box.new w1 _ _
    go_wp2_with fail
    refine (get_any w.heap.size s1 b1 _ hs1l (hbx1.alloc _)).mono ?_
    rintro e w2 ⟨s2, rfl, hs2, hbx2, hg2⟩
    have hn := getF_lt (bytes s1)
    have hm2 := getF_len (bytes s1)
    generalize hr2 : getF (bytes s1) = r2 at *
    obtain ⟨n, m2, b2⟩ := r2
    simp only at hs2 hbx2 hn hm2
    have HR2 := Lib.hid hr2
    clear hr2
    have hbp2 := hbp.grown hg2 (by simp; omega)
    have ho2 : Own w.heap.size 92 4 RPart NoT w2 _ acc := (ho1.alloc RPart.fair _).kept RPart.fair hg2 (.inr hvg) (fun k _ h => h)
    have hvp := fun k (hk : Value.ownBlock _ = some k) => (ho1.lt hk).2
    have hw2 : Below w.heap.size w w2 := below_grown (hw1.alloc hw1.size _) hg2 (by have := hw1.size; simp; omega) (by rintro k hk; cases hk; exact Nat.le_refl _)
    have hpw : w1.heap.size < w2.heap.size := hbp2.lt
    have hs2l : s2.size ≤ 20000 := by
     have := congrArg List.length hs2.out
     simp only [bytes_len, List.length_drop] at this; omega
    clear hg2 ho1 hw1 hbp hbx1
    have p0 : w2.cell? ⟨w1.heap.size, 0, none⟩ = some (.int .i64 ((key / 4 : Nat) : Int)) := hbp2.cell 0
    have p1 : w2.cell? ⟨w1.heap.size, 1, none⟩ = some (.int .i64 ((key % 4 : Nat) : Int)) := hbp2.cell 1
    have p2 : w2.cell? ⟨w1.heap.size, 2, none⟩ = some (.int .i64 0) := hbp2.cell 2
    have p3 : w2.cell? ⟨w1.heap.size, 3, none⟩ = some (.string ⟨#[]⟩) := hbp2.cell 3
    have pf2 : w2.frozen? ⟨w1.heap.size, 2, none⟩ = false := hbp2.frozen 2
    have pf3 : w2.frozen? ⟨w1.heap.size, 3, none⟩ = false := hbp2.frozen 3
    have r0 : w2.cell? ⟨w.heap.size, 0, none⟩ = some (.string s2) := hbx2.cell 0
    have r1 : w2.cell? ⟨w.heap.size, 1, none⟩ = some (.bool (b1 || b2)) := hbx2.cell 1
    have rf0 : w2.frozen? ⟨w.heap.size, 0, none⟩ = false := hbx2.frozen 0
    have rf1 : w2.frozen? ⟨w.heap.size, 1, none⟩ = false := hbx2.frozen 1
    have hne : (w.heap.size = w1.heap.size) = False := by simp; omega
    have hne' : (w1.heap.size = w.heap.size) = False := by simp; omega
    have hn1 := and1 n (by omega)
    have hx0 := xor_zero' n (by omega)
    have hx1 := xor_minus' n (by omega)
    have Hbp2 := Lib.hid hbp2
    have Hbx2 := Lib.hid hbx2
    clear hbp2 hbx2
    have hst : stepD (bytes rs) = _ := stepD_eq (n := n) (m2 := m2) (b2 := b2) HR1.out (by rw [← hs1.out]; exact HR2.out)
    rw [← hs1.out, ← hs2.out] at hst
    have Hst := Lib.hid hst
    clear hst
    have hrne : bytes rs ≠ [] := by intro h; exact hemp (congrArg List.length h)
    have bad : stepD (bytes rs) = none → ∀ W, Below w.heap.size w W → DecPost w (decF (bytes s)) (.returned (.tuple #[.slice none 0 0, .int .i64 1])) W := by
     intro h W hw2
     rw [← he.out, decL_stop hrne h]
     exact ⟨_, rfl, RSl.nil_, hw2, by simp, by simp⟩
    have Bad := Lib.hid bad
    clear bad
    by_cases hbb : (b1 || b2) = true
    ·have hnone : stepD (bytes rs) = none := by rw [Hst.out, if_pos (by simpa using hbb)]
     rw [hbb] at r1
     have hB := Bad.out hnone
     have HB := Lib.hid hB
     clear hB hnone hbb hn1 hx0 hx1
     by_cases hk4 : key % 4 = 0
     ·go_wp2_with fail
      go_ret2
      exact HB.out _ (hw2.setCell (p := ⟨w1.heap.size, 2, none⟩) (by show w.heap.size ≤ w1.heap.size; omega) _)
     ·by_cases hnl : (n : Int) ≤ s2.size
      ·go_wp2_with fail
       go_region
       all_goals
        go_wp2_with fail
        go_ret2
        exact HB.out _ (((below_drew hw2).setCell (p := ⟨w1.heap.size, 3, none⟩) (by show w.heap.size ≤ w1.heap.size; omega) _).setCell (p := ⟨w.heap.size, 0, none⟩) (Nat.le_refl _) _)
      ·go_wp2_with fail
       go_ret2
       exact HB.out _ (hw2.setCell (p := ⟨w.heap.size, 1, none⟩) (Nat.le_refl _) _)
    ·have hb1 : b1 = false := by cases b1 <;> simp_all
     have hb2 : b2 = false := by cases b2 <;> simp_all
     subst hb1 hb2
     have hst2 := Hst.out
     rw [if_neg (by simp)] at hst2
     have Hst2 := Lib.hid hst2
     clear hst2 hbb Hst
     by_cases hk4 : key % 4 = 0
     ·by_cases hn2 : n % 2 = 0
      ·have hbP := Hbp2.out.set_ 2 (.int .i64 ((n : Int) / 2))
       have hbR := Hbx2.out.far (p := ⟨w1.heap.size, 2, none⟩) (by show w.heap.size ≠ w1.heap.size; omega) (.int .i64 ((n : Int) / 2))
       have hoW := ho2.setCell RPart.fair (p := ⟨w1.heap.size, 2, none⟩) (.int .i64 ((n : Int) / 2)) (by intro h; have := hvp _ h; simp at this) (fun h => h)
       have hwW := hw2.setCell (p := ⟨w1.heap.size, 2, none⟩) (by show w.heap.size ≤ w1.heap.size; omega) (.int .i64 ((n : Int) / 2))
       have hst3 := Hst2.out
       rw [if_pos hk4, zag_even hn2] at hst3
       have HS3 := Lib.hid hst3
       clear hst3
       go_wp2_with fail
       refine (wgood_any ⟨_, _, _, _⟩ _ ?_).mono ?_
       ·unfold maxLen; show ByteArray.size _ ≤ _; first | exact Nat.zero_le _ | omega
       rintro e w3 ⟨rfl, hb3⟩
       have hbP3 := hbP.below hb3 hbP.lt
       have hbR3 := hbR.below hb3 hbR.lt
       have ho3 := hoW.below RPart.fair hb3
       have hw3 := below_via hwW hb3 hwW.size
       have hpw3 := hbP3.lt
       clear hb3 hbP hbR hoW hwW p0 p1 p2 p3 pf2 pf3 r0 r1 rf0 rf1 ho2 hw2
       obtain ⟨p, hp⟩ : ∃ p : Part, p = ⟨(key : Int) / 4, 0, (n : Int) / 2, ⟨#[]⟩⟩ := ⟨_, rfl⟩
       rw [← hp] at HS3 ⊢
       have hcs : partCells p = _ := congrArg partCells hp
       replace hbP3 : Box w3 w1.heap.size 92 (partCells p) := by rw [hp]; first | exact hbP3 | (rw [hk4] at hbP3; exact hbP3)
       clear hcs hp
       have q0 : w3.cell? ⟨w1.heap.size, 0, none⟩ = some (.int .i64 p.id) := hbP3.cell 0
       have q1 : w3.cell? ⟨w1.heap.size, 1, none⟩ = some (.int .i64 p.kind) := hbP3.cell 1
       have q2 : w3.cell? ⟨w1.heap.size, 2, none⟩ = some (.int .i64 p.n) := hbP3.cell 2
       have q3 : w3.cell? ⟨w1.heap.size, 3, none⟩ = some (.string p.s) := hbP3.cell 3
       by_cases hgp : goodP p = true
       ·have hst4 := HS3.out
        rw [if_pos hgp] at hst4
        have hlt4 := stepD_len hst4
        have he4 := decL_on (acc := acc) hrne hst4
        rw [he.out] at he4
        have He4 := Lib.hid he4
        clear hst4 he4
        simp only [bytes_len] at hlt4
        go_wp2_with (first | (at_builtin; refine wl_append _ rfl (.tmp 79) (.tmp 81) rfl sl_parts RPart.fair rfl rfl (ho3.alloc RPart.fair _) (Src.one (es := partCells p) (y := p) rfl (Ones.of_all rfl) rfl (Lies.new _ _ _)) (NoT.lt _) ?_ ?_ ?_))
        ·simp; omega
        ·have := hw3.size; simp; omega
        intro v4 w4 ho4 hg4 hv4
        have hbR4 := (hbR3.alloc (.cells (partCells p).toArray 92)).grown hg4 hvg
        have c4 := hbR4.cell 0
        go_wp2_with fail
        go_roundw
        case rel =>
         refine ⟨s2, acc ++ [p], ho4, hbR4, ?_, He4.out.symm, (by rw [show (acc ++ [p]).length = acc.length + 1 from by simp]; omega), ?_, below_grown (hw3.alloc hw3.size _) hg4 (by have := hw3.size; simp; omega) (fun k hk => (ho3.lt hk).1)⟩
         ·rcases hv4 with h | h
          ·rw [h]; exact hvg
          ·rw [h]; simp; have := hbR3.lt; omega
         ·intro x hx
          rcases List.mem_append.1 hx with h | h
          ·exact hps x h
          ·simp at h; subst h; simp [goodP] at hgp; omega
        case measure => rw [strLen_of c4, strLen_of Hc0.out]; exact hlt4
       ·simp only [Bool.not_eq_true] at hgp
        have hst4 := HS3.out
        rw [if_neg (by simp [hgp])] at hst4
        have he4 := decL_stop (acc := acc) hrne hst4
        rw [he.out] at he4
        have He4 := Lib.hid he4
        clear hst4 he4
        go_wp2_with fail
        go_ret2
        rw [He4.out]
        exact ⟨_, rfl, RSl.nil_, hw3, by simp, by simp⟩
      ·have hn21 : n % 2 = 1 := by omega
       have hbP := Hbp2.out.set_ 2 (.int .i64 (-((n : Int) / 2) - 1))
       have hbR := Hbx2.out.far (p := ⟨w1.heap.size, 2, none⟩) (by show w.heap.size ≠ w1.heap.size; omega) (.int .i64 (-((n : Int) / 2) - 1))
       have hoW := ho2.setCell RPart.fair (p := ⟨w1.heap.size, 2, none⟩) (.int .i64 (-((n : Int) / 2) - 1)) (by intro h; have := hvp _ h; simp at this) (fun h => h)
       have hwW := hw2.setCell (p := ⟨w1.heap.size, 2, none⟩) (by show w.heap.size ≤ w1.heap.size; omega) (.int .i64 (-((n : Int) / 2) - 1))
       have hst3 := Hst2.out
       rw [if_pos hk4, zag_odd hn2] at hst3
       have HS3 := Lib.hid hst3
       clear hst3
       go_wp2_with fail
       refine (wgood_any ⟨_, _, _, _⟩ _ ?_).mono ?_
       ·unfold maxLen; show ByteArray.size _ ≤ _; first | exact Nat.zero_le _ | omega
       rintro e w3 ⟨rfl, hb3⟩
       have hbP3 := hbP.below hb3 hbP.lt
       have hbR3 := hbR.below hb3 hbR.lt
       have ho3 := hoW.below RPart.fair hb3
       have hw3 := below_via hwW hb3 hwW.size
       have hpw3 := hbP3.lt
       clear hb3 hbP hbR hoW hwW p0 p1 p2 p3 pf2 pf3 r0 r1 rf0 rf1 ho2 hw2
       obtain ⟨p, hp⟩ : ∃ p : Part, p = ⟨(key : Int) / 4, 0, -((n : Int) / 2) - 1, ⟨#[]⟩⟩ := ⟨_, rfl⟩
       rw [← hp] at HS3 ⊢
       have hcs : partCells p = _ := congrArg partCells hp
       replace hbP3 : Box w3 w1.heap.size 92 (partCells p) := by rw [hp]; first | exact hbP3 | (rw [hk4] at hbP3; exact hbP3)
       clear hcs hp
       have q0 : w3.cell? ⟨w1.heap.size, 0, none⟩ = some (.int .i64 p.id) := hbP3.cell 0
       have q1 : w3.cell? ⟨w1.heap.size, 1, none⟩ = some (.int .i64 p.kind) := hbP3.cell 1
       have q2 : w3.cell? ⟨w1.heap.size, 2, none⟩ = some (.int .i64 p.n) := hbP3.cell 2
       have q3 : w3.cell? ⟨w1.heap.size, 3, none⟩ = some (.string p.s) := hbP3.cell 3
       by_cases hgp : goodP p = true
       ·have hst4 := HS3.out
        rw [if_pos hgp] at hst4
        have hlt4 := stepD_len hst4
        have he4 := decL_on (acc := acc) hrne hst4
        rw [he.out] at he4
        have He4 := Lib.hid he4
        clear hst4 he4
        simp only [bytes_len] at hlt4
        go_wp2_with (first | (at_builtin; refine wl_append _ rfl (.tmp 79) (.tmp 81) rfl sl_parts RPart.fair rfl rfl (ho3.alloc RPart.fair _) (Src.one (es := partCells p) (y := p) rfl (Ones.of_all rfl) rfl (Lies.new _ _ _)) (NoT.lt _) ?_ ?_ ?_))
        ·simp; omega
        ·have := hw3.size; simp; omega
        intro v4 w4 ho4 hg4 hv4
        have hbR4 := (hbR3.alloc (.cells (partCells p).toArray 92)).grown hg4 hvg
        have c4 := hbR4.cell 0
        go_wp2_with fail
        go_roundw
        case rel =>
         refine ⟨s2, acc ++ [p], ho4, hbR4, ?_, He4.out.symm, (by rw [show (acc ++ [p]).length = acc.length + 1 from by simp]; omega), ?_, below_grown (hw3.alloc hw3.size _) hg4 (by have := hw3.size; simp; omega) (fun k hk => (ho3.lt hk).1)⟩
         ·rcases hv4 with h | h
          ·rw [h]; exact hvg
          ·rw [h]; simp; have := hbR3.lt; omega
         ·intro x hx
          rcases List.mem_append.1 hx with h | h
          ·exact hps x h
          ·simp at h; subst h; simp [goodP] at hgp; omega
        case measure => rw [strLen_of c4, strLen_of Hc0.out]; exact hlt4
       ·simp only [Bool.not_eq_true] at hgp
        have hst4 := HS3.out
        rw [if_neg (by simp [hgp])] at hst4
        have he4 := decL_stop (acc := acc) hrne hst4
        rw [he.out] at he4
        have He4 := Lib.hid he4
        clear hst4 he4
        go_wp2_with fail
        go_ret2
        rw [He4.out]
        exact ⟨_, rfl, RSl.nil_, hw3, by simp, by simp⟩
     ·by_cases hnl : n ≤ s2.size
      ·have hbP := (Hbp2.out.drew.set_ 3 (.string (s2.extract 0 n))).far (p := ⟨w.heap.size, 0, none⟩) (by show w1.heap.size ≠ w.heap.size; omega) (.string (s2.extract n s2.size))
       have hbR := (Hbx2.out.drew.far (p := ⟨w1.heap.size, 3, none⟩) (by show w.heap.size ≠ w1.heap.size; omega) (.string (s2.extract 0 n))).set_ 0 (.string (s2.extract n s2.size))
       have hoW := ((ho2.drew RPart.fair).setCell RPart.fair (p := ⟨w1.heap.size, 3, none⟩) (.string (s2.extract 0 n)) (by intro h; have := hvp _ h; simp at this) (fun h => h)).setCell RPart.fair (p := ⟨w.heap.size, 0, none⟩) (.string (s2.extract n s2.size)) hvg (fun h => h)
       have hwW := ((below_drew hw2).setCell (p := ⟨w1.heap.size, 3, none⟩) (by show w.heap.size ≤ w1.heap.size; omega) (.string (s2.extract 0 n))).setCell (p := ⟨w.heap.size, 0, none⟩) (Nat.le_refl _) (.string (s2.extract n s2.size))
       have hnl' : (n : Int) ≤ s2.size := by omega
       have hzl : (s2.extract 0 n).size ≤ 20000 := by simp; omega
       have hst3 := Hst2.out
       rw [if_neg hk4, if_pos (show n ≤ (bytes s2).length from hnl), ← bytes_to, ← bytes_from, ← ba_of (s := s2.extract 0 n) rfl] at hst3
       have HS3 := Lib.hid hst3
       clear hst3
       go_wp2_with fail
       go_region
       go_wp2_with fail
       refine (wgood_any ⟨(key : Int) / 4, (key : Int) % 4, 0, s2.extract 0 n⟩ _ ?_).mono ?_
       ·unfold maxLen; show (s2.extract 0 n).size ≤ _; omega
       rintro e w3 ⟨rfl, hb3⟩
       have hbP3 := hbP.below hb3 hbP.lt
       have hbR3 := hbR.below hb3 hbR.lt
       have ho3 := hoW.below RPart.fair hb3
       have hw3 := below_via hwW hb3 hwW.size
       have hpw3 := hbP3.lt
       clear hb3 hbP hbR hoW hwW p0 p1 p2 p3 pf2 pf3 r0 r1 rf0 rf1 ho2 hw2
       obtain ⟨p, hp⟩ : ∃ p : Part, p = ⟨(key : Int) / 4, (key : Int) % 4, 0, s2.extract 0 n⟩ := ⟨_, rfl⟩
       rw [← hp] at HS3 ⊢
       have hcs : partCells p = _ := congrArg partCells hp
       replace hbP3 : Box w3 w1.heap.size 92 (partCells p) := by rw [hp]; first | exact hbP3 | (rw [hk4] at hbP3; exact hbP3)
       clear hcs hp
       have q0 : w3.cell? ⟨w1.heap.size, 0, none⟩ = some (.int .i64 p.id) := hbP3.cell 0
       have q1 : w3.cell? ⟨w1.heap.size, 1, none⟩ = some (.int .i64 p.kind) := hbP3.cell 1
       have q2 : w3.cell? ⟨w1.heap.size, 2, none⟩ = some (.int .i64 p.n) := hbP3.cell 2
       have q3 : w3.cell? ⟨w1.heap.size, 3, none⟩ = some (.string p.s) := hbP3.cell 3
       by_cases hgp : goodP p = true
       ·have hst4 := HS3.out
        rw [if_pos hgp] at hst4
        have hlt4 := stepD_len hst4
        have he4 := decL_on (acc := acc) hrne hst4
        rw [he.out] at he4
        have He4 := Lib.hid he4
        clear hst4 he4
        simp only [bytes_len] at hlt4
        go_wp2_with (first | (at_builtin; refine wl_append _ rfl (.tmp 79) (.tmp 81) rfl sl_parts RPart.fair rfl rfl (ho3.alloc RPart.fair _) (Src.one (es := partCells p) (y := p) rfl (Ones.of_all rfl) rfl (Lies.new _ _ _)) (NoT.lt _) ?_ ?_ ?_))
        ·simp; omega
        ·have := hw3.size; simp; omega
        intro v4 w4 ho4 hg4 hv4
        have hbR4 := (hbR3.alloc (.cells (partCells p).toArray 92)).grown hg4 hvg
        have c4 := hbR4.cell 0
        go_wp2_with fail
        go_roundw
        case rel =>
         refine ⟨s2.extract n s2.size, acc ++ [p], ho4, hbR4, ?_, He4.out.symm, (by rw [show (acc ++ [p]).length = acc.length + 1 from by simp]; omega), ?_, below_grown (hw3.alloc hw3.size _) hg4 (by have := hw3.size; simp; omega) (fun k hk => (ho3.lt hk).1)⟩
         ·rcases hv4 with h | h
          ·rw [h]; exact hvg
          ·rw [h]; simp; have := hbR3.lt; omega
         ·intro x hx
          rcases List.mem_append.1 hx with h | h
          ·exact hps x h
          ·simp at h; subst h; simp [goodP] at hgp; omega
        case measure => rw [strLen_of c4, strLen_of Hc0.out]; exact hlt4
       ·simp only [Bool.not_eq_true] at hgp
        have hst4 := HS3.out
        rw [if_neg (by simp [hgp])] at hst4
        have he4 := decL_stop (acc := acc) hrne hst4
        rw [he.out] at he4
        have He4 := Lib.hid he4
        clear hst4 he4
        go_wp2_with fail
        go_ret2
        rw [He4.out]
        exact ⟨_, rfl, RSl.nil_, hw3, by simp, by simp⟩
      ·have hnone : stepD (bytes rs) = none := by
        rw [Hst2.out, if_neg hk4, if_neg (show ¬ n ≤ (bytes s2).length from hnl)]
       have hB := Bad.out hnone (w2.setCell ⟨w.heap.size, 1, none⟩ (.bool true)) (hw2.setCell (p := ⟨w.heap.size, 1, none⟩) (Nat.le_refl _) _)
       have HB := Lib.hid hB
       clear hB hnone
       have hnl' : ¬ (n : Int) ≤ s2.size := by omega
       go_wp2_with fail
       go_ret2
       exact HB.out
end Go.Proofs.YtfidfakcbjoilaaDoor
