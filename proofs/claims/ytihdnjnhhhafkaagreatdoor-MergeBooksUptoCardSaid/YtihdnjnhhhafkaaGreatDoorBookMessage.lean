/- The walk of book.message. -/
import Derived.Test.YtihdnjnhhhafkaaGreatDoorBooks
set_option linter.all false
set_option maxRecDepth 100000
set_option maxHeartbeats 8000000
namespace Go.Proofs.YtihdnjnhhhafkaaGreatDoor
open Go.RowKit
def GoneAt (t : TypeD) (i : Nat) (h : i < t.gone.length) : Prop := (fieldOf t t.gone[i]).isSome = false ∧ 1 ≤ t.gone[i] ∧ t.gone[i] ≤ 30 ∧ ∀ (_ : 0 < i), t.gone[i - 1] < t.gone[i]
def FieldAt (b : BookD) (t : TypeD) (i : Nat) (h : i < t.fields.length) : Prop := fieldP b t.fields[i] ∧ (∀ (_ : 0 < i), t.fields[i - 1].id < t.fields[i].id) ∧ ∀ j (_ : j < i), t.fields[i].name ≠ t.fields[j].name
theorem msg_no1 {b : BookD} {t : TypeD} (h : ¬ (t.fields.length ≤ 5 ∧ t.items.length = 0 ∧ t.gone.length ≤ 30)) : messageF b t = false := by
 unfold messageF
 rw [decide_eq_false_iff_not]
 exact fun hp => h ⟨hp.1, hp.2.1, hp.2.2.1⟩
theorem msg_no2 {b : BookD} {t : TypeD} {i : Nat} (h : i < t.gone.length) (hn : ¬ GoneAt t i h) : messageF b t = false := by
 unfold messageF
 rw [decide_eq_false_iff_not]
 exact fun hp => hn (hp.2.2.2.1 i h)
theorem msg_no3 {b : BookD} {t : TypeD} {i : Nat} (h : i < t.fields.length) (hn : ¬ FieldAt b t i h) : messageF b t = false := by
 unfold messageF
 rw [decide_eq_false_iff_not]
 exact fun hp => hn (hp.2.2.2.2 i h)
theorem msg_yes {b : BookD} {t : TypeD} (h1 : t.fields.length ≤ 5 ∧ t.items.length = 0 ∧ t.gone.length ≤ 30) (h2 : ∀ i (h : i < t.gone.length), GoneAt t i h) (h3 : ∀ i (h : i < t.fields.length), FieldAt b t i h) : messageF b t = true := by
 unfold messageF
 rw [decide_eq_true_iff]
 exact ⟨h1.1, h1.2.1, h1.2.2, h2, h3⟩
def FieldOfPost (w : World) (r : Option FieldD) (e : Ending) (w' : World) : Prop :=
 ∃ f : FieldD, Hid (r.getD .zero = f) ∧ e = .returned (.tuple #[.agg #[.int .i64 f.id, .string f.name, .string f.type, .int .i64 f.kind, .int .i64 f.rule], .bool r.isSome]) ∧ Below w.heap.size w w'
theorem fieldOf_out (S : Nat → Prop) (cs : List Value) (t : TypeD) (id : Int) (w : World) (ht : RType S w cs t) :
  Calls Tryz.prog 44 #[.agg cs.toArray, .int .i64 id] w (FieldOfPost w (fieldOf t id)) :=
 (fieldOf_any S cs t id w ht).mono fun _ _ ⟨he, hb⟩ => ⟨_, rfl, he, hb⟩
theorem number_lit (x : Int) (w : World) {r : Bool} (hr : decide (1 ≤ x ∧ x ≤ 30) = r) : Calls Tryz.prog 45 #[.int .i64 x] w (Pur w (.bool r)) := by subst hr; exact number_pur x w
theorem ba_size0' {a : ByteArray} (h : a.size = 0) : a = ⟨#[]⟩ := by
 rw [ba_of (s := a) (l := []) (List.eq_nil_of_length_eq_zero h)]
theorem feq_step {b : BookD} {t : TypeD} {k : Nat} (h : ∀ j (h : j < t.fields.length), j < k → FieldAt b t j h) (hk : k < t.fields.length) (h' : FieldAt b t k hk) : Hid (∀ j (h : j < t.fields.length), j < k + 1 → FieldAt b t j h) := by
 show ∀ j (h : j < t.fields.length), j < k + 1 → FieldAt b t j h
 intro j hj hjk
 by_cases hjk' : j < k
 ·exact h j hj hjk'
 ·have : j = k := by omega
  subst this
  exact h'
theorem geq_step {t : TypeD} {k : Nat} (h : ∀ j (h : j < t.gone.length), j < k → GoneAt t j h) (hk : k < t.gone.length) (h' : GoneAt t k hk) : Hid (∀ j (h : j < t.gone.length), j < k + 1 → GoneAt t j h) := by
 show ∀ j (h : j < t.gone.length), j < k + 1 → GoneAt t j h
 intro j hj hjk
 by_cases hjk' : j < k
 ·exact h j hj hjk'
 ·have : j = k := by omega
  subst this
  exact h'
theorem message_any (S : Nat → Prop) (vb : Value) (b : BookD) (cs : List Value) (t : TypeD) (w : World) (hb0 : RSl 5 96 RType S w [vb] b) (ht : RType S w cs t) (hW : Words w) (hsz : ∀ x ∈ t.fields, x.name.size ≤ 140737488351232) :
  Calls Tryz.prog 30 #[.agg #[vb], .agg cs.toArray] w (Ret w (.bool (messageF b t))) := by
 obtain ⟨A, cap, rfl, hlc, hlb⟩ := hb0.form
 obtain ⟨A1, k1, A2, k2, A3, k3, rfl, hf, hgn, hi⟩ := ht.parts
 obtain ⟨Ai, ki, hii, hilc, hilb⟩ := hi.form
 obtain ⟨Af, kf, hff, hflc, hflb⟩ := hf.form
 obtain ⟨Ag, kg, hgg, hglc, hglb⟩ := hgn.form
 have HB := Lib.hid hb0
 have HT := Lib.hid ht
 have HF := Lib.hid hf
 have HG := Lib.hid hgn
 have HW := Lib.hid hW
 have HSZ := Lib.hid hsz
 have hki : t.fields.length ≤ k1 := by injection hff; omega
 clear hb0 ht hi hf hgn hW hsz hii hff hgg hilc hilb
 go_enter Tryz.func30, Tryz.ntmps30
 by_cases h1 : t.fields.length ≤ 5 ∧ t.items.length = 0 ∧ t.gone.length ≤ 30
 ·have H1 := Lib.hid h1
  obtain ⟨h11, h12, h13⟩ := h1
  have h12' : ¬ 0 < t.items.length := by omega
  clear h12
  go_wp2_with fail
  go_loopw [34] (fun i wr => ∃ k : Nat, i = .int .i64 k ∧ k ≤ t.gone.length ∧ Hid (∀ j (h : j < t.gone.length), j < k → GoneAt t j h) ∧ Box wr w.heap.size 24 [.slice A b.length cap] ∧ Box wr (w.heap.size + 1) 38 [.string t.name, .bool t.enum, .slice A1 t.fields.length k1, .slice A2 t.gone.length k2, .slice A3 t.items.length k3] ∧ Below w.heap.size w wr) (fun i _ => t.gone.length - (intOf i).toNat)
  case atStart =>
   refine ⟨0, rfl, by omega, (fun j _ hj => absurd hj (by omega) : ∀ j (h : j < t.gone.length), j < 0 → GoneAt t j h), (Box.new w _ _).alloc _, ?_, ((Below.refl _ _).alloc (Nat.le_refl _) _).alloc (by simp) _⟩
   have := Box.new (w.alloc (.cells #[.slice A b.length cap] 24)) 38 [.string t.name, .bool t.enum, .slice A1 t.fields.length k1, .slice A2 t.gone.length k2, .slice A3 t.items.length k3]
   simpa using this
  case round =>
   obtain ⟨k, rfl, hk, he, hbk, htp, hb⟩ := hrel
   have hltb : w.heap.size < wr.heap.size := hbk.lt
   have hltt : w.heap.size + 1 < wr.heap.size := htp.lt
   have b0 : wr.cell? ⟨w.heap.size + 1, 0, none⟩ = some (.string t.name) := htp.cell 0
   have b1 : wr.cell? ⟨w.heap.size + 1, 1, none⟩ = some (.bool t.enum) := htp.cell 1
   have b2 : wr.cell? ⟨w.heap.size + 1, 2, none⟩ = some (.slice A1 t.fields.length k1) := htp.cell 2
   have b3 : wr.cell? ⟨w.heap.size + 1, 3, none⟩ = some (.slice A2 t.gone.length k2) := htp.cell 3
   have b4 : wr.cell? ⟨w.heap.size + 1, 4, none⟩ = some (.slice A3 t.items.length k3) := htp.cell 4
   by_cases hlt : k < t.gone.length
   ·obtain ⟨g, o, rfl, hS, hg⟩ := HG.out.base (by omega)
    have hc := (HG.out.flat (enc := fun x : Int => [.int .i64 x]) hlt).keep (Keep.of_below hb) hS
    have hno0 : ¬ GoneAt t k hlt → messageF b t = false := msg_no2 hlt
    unfold GoneAt at hno0
    have hpv : 0 < k → wr.cell? ⟨g, o + (k - 1), none⟩ = some (.int .i64 t.gone[k - 1]) := fun h0 => by
     have := ((HG.out.flat (enc := fun x : Int => [.int .i64 x]) (show k - 1 < t.gone.length by omega)).keep (Keep.of_below hb) hS).at_ 0 rfl
     simpa using this
    obtain ⟨n, hxe⟩ : ∃ x, x = t.gone[k] := ⟨_, rfl⟩
    rw [← hxe] at hc hno0
    have q0 : wr.cell? ⟨g, o + k, none⟩ = some (.int .i64 n) := by have := hc.at_ 0 rfl; simpa using this
    have hgl : g < wr.heap.size := Nat.lt_of_lt_of_le hg hb.size
    have Hxe := Lib.hid hxe
    clear hc hxe
    have Hno0 := Lib.hid hno0
    have Hpv := Lib.hid hpv
    clear hno0 hpv
    go_wp2_with fail
    refine (fieldOf_out S _ t n _ (RType.fair.keep HT.out (Keep.of_below hb))).mono ?_
    rintro e w1 ⟨fx, -, rfl, hb1⟩
    obtain ⟨xid, xname, xtype, xkind, xrule⟩ := fx
    dsimp only
    have hw1 := below_via hb hb1 hb.size
    have hw2 := hw1.alloc hw1.size (.cells #[.int .i64 xid, .string xname, .string xtype, .int .i64 xkind, .int .i64 xrule] 43)
    have hbk2 := (hbk.below hb1 hbk.lt).alloc (.cells #[.int .i64 xid, .string xname, .string xtype, .int .i64 xkind, .int .i64 xrule] 43)
    have htp1 := htp.below hb1 htp.lt
    have htp2 := htp1.alloc (.cells #[.int .i64 xid, .string xname, .string xtype, .int .i64 xkind, .int .i64 xrule] 43)
    have m3 : w1.cell? ⟨w.heap.size + 1, 3, none⟩ = some (.slice (some ⟨g, o, none⟩) t.gone.length k2) := htp1.cell 3
    have hl1 : w.heap.size + 1 < w1.heap.size := htp1.lt
    have hgl1 : g < w1.heap.size := Nat.lt_of_lt_of_le hgl hb1.size
    have hpv1 : 0 < k → w1.cell? ⟨g, o + (k - 1), none⟩ = some (.int .i64 t.gone[k - 1]) := fun h0 => by
     rw [World.cell?_of_block (w := wr) (hb1.block g hgl)]
     exact Hpv.out h0
    clear b0 b1 b2 b3 b4 q0 hbk htp htp1 Hpv hb1
    have Hpv := Lib.hid hpv1
    clear hpv1
    obtain ⟨so, hso⟩ : ∃ so, so = (fieldOf t n).isSome := ⟨_, rfl⟩
    rw [← hso]
    have Hso := Lib.hid hso
    clear hso
    by_cases hn : 1 ≤ n ∧ n ≤ 30
    ·have hnb : decide (1 ≤ n ∧ n ≤ 30) = true := by simpa using hn
     have Hn := Lib.hid hn
     cases so with
     | true =>
      have Hno := Lib.hid (Hno0.out (fun h => by have := h.1; rw [← Hso.out] at this; cases this))
      go_wp2_with (go_at_call 45; refine (number_lit _ _ hnb).mono ?_; rintro e w' ⟨rfl, rfl⟩)
      go_ret
      exact ⟨ret_b Hno.out.symm, hw2⟩
     | false =>
      by_cases hk0 : 0 < k
      ·obtain ⟨y, hye⟩ : ∃ y, y = t.gone[k - 1] := ⟨_, rfl⟩
       have hpvk := Hpv.out hk0
       rw [← hye] at hpvk
       have e1 : IntKind.i64.wrap ((k : Int) - 1) = (k : Int) - 1 := IntWalk.i64_in _ (by omega)
       have e2 : ((k : Int) - 1).toNat = k - 1 := by omega
       by_cases hyx : y < n
       ·have Hf := Lib.hid (show GoneAt t k hlt from by unfold GoneAt; rw [← Hxe.out]; exact ⟨Hso.out.symm, hn.1, hn.2, fun _ => by rw [← hye]; exact hyx⟩)
        have Hye := Lib.hid hye
        clear hye hn
        go_wp2_with (go_at_call 45; refine (number_lit _ _ hnb).mono ?_; rintro e w' ⟨rfl, rfl⟩)
        go_roundw
        case rel => exact ⟨k + 1, by go_num, by omega, geq_step he.out hlt Hf.out, hbk2, htp2, hw2⟩
        case measure => simp [intOf]; omega
       ·have Hno := Lib.hid (Hno0.out (fun h => by have := h.2.2.2 hk0; omega))
        have Hye := Lib.hid hye
        clear hye hn
        go_wp2_with (go_at_call 45; refine (number_lit _ _ hnb).mono ?_; rintro e w' ⟨rfl, rfl⟩)
        go_ret
        exact ⟨ret_b Hno.out.symm, hw2⟩
      ·have Hf := Lib.hid (show GoneAt t k hlt from by unfold GoneAt; rw [← Hxe.out]; exact ⟨Hso.out.symm, hn.1, hn.2, fun h => absurd h hk0⟩)
       clear hn
       go_wp2_with (go_at_call 45; refine (number_lit _ _ hnb).mono ?_; rintro e w' ⟨rfl, rfl⟩)
       go_roundw
       case rel => exact ⟨k + 1, by go_num, by omega, geq_step he.out hlt Hf.out, hbk2, htp2, hw2⟩
       case measure => simp [intOf]; omega
    ·have hnb : decide (1 ≤ n ∧ n ≤ 30) = false := by simpa using hn
     have Hno := Lib.hid (Hno0.out (fun h => hn ⟨h.2.1, h.2.2.1⟩))
     clear hn
     go_wp2_with (go_at_call 45; refine (number_lit _ _ hnb).mono ?_; rintro e w' ⟨rfl, rfl⟩)
     go_ret
     exact ⟨ret_b Hno.out.symm, hw2⟩
   ·have HGone := Lib.hid (fun j (h : j < t.gone.length) => he.out j h (by omega))
    clear he b0 b1 b3 b4
    obtain ⟨wo, rfl⟩ : ∃ wo : World, wo = wr := ⟨_, rfl⟩
    go_wp2_with fail
    clear b2
    go_loopw [69] (fun i wr => ∃ k : Nat, i = .int .i64 k ∧ k ≤ t.fields.length ∧ Hid (∀ j (h : j < t.fields.length), j < k → FieldAt b t j h) ∧ Box wr w.heap.size 24 [.slice A b.length cap] ∧ Box wr (w.heap.size + 1) 38 [.string t.name, .bool t.enum, .slice A1 t.fields.length k1, .slice A2 t.gone.length k2, .slice A3 t.items.length k3] ∧ Below w.heap.size w wr) (fun i _ => t.fields.length - (intOf i).toNat)
    case atStart => exact ⟨0, rfl, by omega, (fun j _ hj => absurd hj (by omega) : ∀ j (h : j < t.fields.length), j < 0 → FieldAt b t j h), hbk, htp, hb⟩
    case round =>
     clear hbk htp hb hltb hltt hlt hk
     obtain ⟨k, rfl, hk, He, hbk, htp, hb⟩ := hrel
     have hltb : w.heap.size < wr.heap.size := hbk.lt
     have hltt : w.heap.size + 1 < wr.heap.size := htp.lt
     have b2 : wr.cell? ⟨w.heap.size + 1, 2, none⟩ = some (.slice A1 t.fields.length k1) := htp.cell 2
     by_cases hlt : k < t.fields.length
     ·obtain ⟨g, o, rfl, hS, hg⟩ := HF.out.base (by omega)
      have hc := (HF.out.flat (enc := fieldCells) hlt).keep (Keep.of_below hb) hS
      have hno0 : ¬ FieldAt b t k hlt → messageF b t = false := msg_no3 hlt
      have hxs := HSZ.out t.fields[k] (List.getElem_mem hlt)
      have hpv : 0 < k → wr.cell? ⟨g, o + (k - 1) * 5, none⟩ = some (.int .i64 t.fields[k - 1].id) := fun h0 =>
       ((HF.out.flat (enc := fieldCells) (show k - 1 < t.fields.length by omega)).keep (Keep.of_below hb) hS).at_ 0 rfl
      unfold FieldAt at hno0
      obtain ⟨f0, hxe⟩ : ∃ x, x = t.fields[k] := ⟨_, rfl⟩
      rw [← hxe] at hc hno0 hxs
      obtain ⟨⟨fid, fname, ftype, fkind, frule⟩, hf0⟩ : ∃ x, x = f0 := ⟨_, rfl⟩
      rw [← hf0] at hc hxs
      have Hf0 := Lib.hid hf0
      have hno1 : ¬ (namedF fname = true ∧ 1 ≤ fid ∧ fid ≤ 30 ∧ 1 ≤ fkind ∧ fkind ≤ 5 ∧ 1 ≤ frule ∧ frule ≤ 3) → messageF b t = false := fun h => hno0 fun hh => h (by
       obtain ⟨⟨h1, h2, h3, h4, h5, h6, h7, _⟩, _⟩ := hh
       rw [← hf0] at h1 h2 h3 h4 h5 h6 h7
       exact ⟨h1, h2, h3, h4, h5, h6, h7⟩)
      have q0 : wr.cell? ⟨g, o + k * 5, none⟩ = some (.int .i64 fid) := hc.at_ 0 rfl
      have q1 : wr.cell? ⟨g, o + k * 5 + 1, none⟩ = some (.string fname) := hc.at_ 1 rfl
      have q2 : wr.cell? ⟨g, o + k * 5 + 2, none⟩ = some (.string ftype) := hc.at_ 2 rfl
      have q3 : wr.cell? ⟨g, o + k * 5 + 3, none⟩ = some (.int .i64 fkind) := hc.at_ 3 rfl
      have q4 : wr.cell? ⟨g, o + k * 5 + 4, none⟩ = some (.int .i64 frule) := hc.at_ 4 rfl
      have hgl : g < wr.heap.size := Nat.lt_of_lt_of_le hg hb.size
      have Hxe := Lib.hid hxe
      dsimp only at hxs
      clear hc hxe hf0
      have hwa := hb.alloc hb.size (.cells #[.int .i64 fid, .string fname, .string ftype, .int .i64 fkind, .int .i64 frule] 43)
      have hbkn := hbk.alloc (.cells #[.int .i64 fid, .string fname, .string ftype, .int .i64 fkind, .int .i64 frule] 43)
      have htpn := htp.alloc (.cells #[.int .i64 fid, .string fname, .string ftype, .int .i64 fkind, .int .i64 frule] 43)
      have HWn := Lib.hid (HW.out.below hwa)
      by_cases hnm : namedF fname = true
      ·by_cases hid : 1 ≤ fid ∧ fid ≤ 30
       ·have hnb : decide (1 ≤ fid ∧ fid ≤ 30) = true := by simpa using hid
        by_cases hk1 : 1 ≤ fkind
        ·have d1 : decide (fkind < 1) = false := by simp; omega
         by_cases hk5 : fkind ≤ 5
         ·have d2 : decide (fkind > 5) = false := by simp; omega
          by_cases hr1 : 1 ≤ frule
          ·have d3 : decide (frule < 1) = false := by simp; omega
           by_cases hr3 : frule ≤ 3
           ·have d4 : decide (frule > 3) = false := by simp; omega
            have hbad : ∀ q (h : q < t.fields.length), q < k → fname = t.fields[q].name → messageF b t = false := fun q _ hqk h => hno0 fun hh => by
             have := hh.2.2 q hqk
             rw [← Hf0.out] at this
             exact this h
            have hbad2 : ¬ kindP b f0 → messageF b t = false := fun h => hno0 fun hh => h hh.1.2.2.2.2.2.2.2
            have hfp : kindP b f0 → fieldP b f0 := fun h => by
             rw [← Hf0.out] at h ⊢
             exact ⟨hnm, hid.1, hid.2, hk1, hk5, hr1, hr3, h⟩
            by_cases hk0 : 0 < k
            ·have hpvk := hpv (by omega)
             obtain ⟨y, hye⟩ : ∃ y, y = t.fields[k - 1].id := ⟨_, rfl⟩
             rw [← hye] at hpvk
             have e1 : IntKind.i64.wrap ((k : Int) - 1) = (k : Int) - 1 := IntWalk.i64_in _ (by omega)
             have e2 : ((k : Int) - 1).toNat = k - 1 := by omega
             have e3 : decide (0 < k) = true := by simp; omega
             by_cases hyx : y < fid
             ·have e4 : decide (y ≥ fid) = false := by simp; omega
              have hok : (∀ q (h : q < t.fields.length), q < k → fname ≠ t.fields[q].name) → kindP b f0 → FieldAt b t k hlt := fun h hkp => by
               unfold FieldAt; rw [← Hxe.out]
               refine ⟨hfp hkp, fun _ => ?_, fun j hj => ?_⟩
               ·rw [← hye, ← Hf0.out]; exact hyx
               ·have := h j (by omega) hj
                rw [← Hf0.out]; exact this
              have Hye := Lib.hid hye
              clear hye hpv hno1 hfp hid
              have Hok := Lib.hid hok
              have Hbad := Lib.hid hbad
              have Hbad2 := Lib.hid hbad2
              clear hno0 hok hbad hbad2
              go_wp2_with fail
              go_quiet ((first | (go_at_call 28; exact named_quiet _ _ _ hnm (by omega) HWn.out) | (go_at_call 45; exact number_quiet _ _ _ hnb)))
              have hwq := below_drewN hwa nq
              have hbkq := hbkn.drewN nq
              have htpq := htpn.drewN nq
              have hxq : Box ((wr.alloc (.cells #[.int .i64 fid, .string fname, .string ftype, .int .i64 fkind, .int .i64 frule] 43)).drewN nq) wr.heap.size 43 [.int .i64 fid, .string fname, .string ftype, .int .i64 fkind, .int .i64 frule] := (Box.new wr _ _).drewN nq
              clear hwa hbkn htpn q0 q1 q2 q3 q4 d1 d2 d3 d4 e3 hnm hnb b2 HWn hk1 hk5 hr1 hr3
              generalize hWq : (wr.alloc (.cells #[.int .i64 fid, .string fname, .string ftype, .int .i64 fkind, .int .i64 frule] 43)).drewN nq = Wq at *
              clear hWq
              have hltx : wr.heap.size < Wq.heap.size := hxq.lt
              have hltt : w.heap.size + 1 < Wq.heap.size := htpq.lt
              have hltb : w.heap.size < Wq.heap.size := hbkq.lt
              generalize hX : wr.heap.size = X at *
              clear hX
              have c4 : Wq.cell? ⟨w.heap.size + 1, 2, none⟩ = some (.slice (some ⟨g, o, none⟩) t.fields.length k1) := htpq.cell 2
              go_wp2_with fail
              go_loopw [125] (fun i wi => ∃ j : Nat, i = .int .i64 j ∧ j ≤ k ∧ Hid (∀ q (h : q < t.fields.length), q < j → fname ≠ t.fields[q].name) ∧ Below Wq.heap.size Wq wi) (fun i _ => k - (intOf i).toNat)
              case atStart => exact ⟨0, rfl, by omega, (fun q _ hq => absurd hq (by omega) : ∀ q (h : q < t.fields.length), q < 0 → fname ≠ t.fields[q].name), Below.refl _ _⟩
              case round =>
               obtain ⟨j, rfl, hj, hd, hbi⟩ := hrel
               have hwi := below_via hwq hbi hwq.size
               have hbki := hbkq.below hbi hbkq.lt
               have htpi := htpq.below hbi htpq.lt
               have hxi := hxq.below hbi hltx
               have hXl : X < wr.heap.size := hxi.lt
               by_cases hjl : j < k
               ·have hjt : j < t.fields.length := by omega
                have hcj := (HF.out.flat (enc := fieldCells) hjt).keep (Keep.of_below hwi) hS
                obtain ⟨z, hz⟩ : ∃ z, z = t.fields[j] := ⟨_, rfl⟩
                rw [← hz] at hcj
                obtain ⟨zid, zname, ztype, zkind, zrule⟩ := z
                have p0 : wr.cell? ⟨g, o + j * 5, none⟩ = some (.int .i64 zid) := hcj.at_ 0 rfl
                have p1 : wr.cell? ⟨g, o + j * 5 + 1, none⟩ = some (.string zname) := hcj.at_ 1 rfl
                have p2 : wr.cell? ⟨g, o + j * 5 + 2, none⟩ = some (.string ztype) := hcj.at_ 2 rfl
                have p3 : wr.cell? ⟨g, o + j * 5 + 3, none⟩ = some (.int .i64 zkind) := hcj.at_ 3 rfl
                have p4 : wr.cell? ⟨g, o + j * 5 + 4, none⟩ = some (.int .i64 zrule) := hcj.at_ 4 rfl
                have c0 : wr.cell? ⟨X, 1, none⟩ = some (.string fname) := hxi.cell 1
                have hgl : g < wr.heap.size := by have := hbi.size; omega
                have hzn : zname = t.fields[j].name := by rw [← hz]
                have Hzn := Lib.hid hzn
                clear hz hcj c4 hzn
                have hwj := hwi.alloc hwi.size (.cells #[.int .i64 zid, .string zname, .string ztype, .int .i64 zkind, .int .i64 zrule] 43)
                have hbj := hbi.alloc hbi.size (.cells #[.int .i64 zid, .string zname, .string ztype, .int .i64 zkind, .int .i64 zrule] 43)
                by_cases hxz : fname = zname
                ·have Hno := Lib.hid (Hbad.out j hjt hjl (hxz.trans Hzn.out))
                 subst hxz
                 go_wp2_with fail
                 go_ret
                 exact ⟨ret_b Hno.out.symm, hwj⟩
                ·have hne : (fname.toList == zname.toList) = false := by rw [ba_eq]; simpa using hxz
                 go_wp2_with fail
                 go_roundw
                 case rel =>
                  refine ⟨j + 1, by go_num, by omega, ?_, hbj⟩
                  show ∀ q (h : q < t.fields.length), q < j + 1 → fname ≠ t.fields[q].name
                  intro q hq hqj
                  by_cases hqj' : q < j
                  ·exact hd.out q hq hqj'
                  ·have : q = j := by omega
                   subst this
                   rw [← Hzn.out]; exact hxz
                 case measure => simp [intOf]; omega
               ·have hkk : j = k := by omega
                have Hok2 := Lib.hid (fun h : kindP b f0 => Hok.out (fun q hq hqk => hd.out q hq (by omega)) h)
                have s0 : wr.cell? ⟨w.heap.size, 0, none⟩ = some (.slice A b.length cap) := hbki.cell 0
                have x2 : wr.cell? ⟨X, 2, none⟩ = some (.string ftype) := hxi.cell 2
                have x3 : wr.cell? ⟨X, 3, none⟩ = some (.int .i64 fkind) := hxi.cell 3
                have hltb2 : w.heap.size < wr.heap.size := hbki.lt
                clear c4 hkk hd Hok
                go_wp2_with fail
                refine (find_any S _ b ftype _ ((RSl.fair RType.fair).below HB.out hwi)).mono ?_
                rintro e w3 ⟨cs3, rfl, hr3, hb3⟩
                obtain ⟨B1, l1, B2, l2, B3, l3, rfl, -, -, -⟩ := hr3.parts
                have hw3 := below_via hwi hb3 hwi.size
                have hbk3 := hbki.below hb3 hltb2
                have htp3 := htpi.below hb3 htpi.lt
                have hx3 := (hxi.below hb3 hxi.lt)
                have y2 := hx3.cell 2
                have y3 := hx3.cell 3
                simp only [List.getElem?_cons_zero, List.getElem?_cons_succ] at y2 y3
                have hXl3 : X < w3.heap.size := hx3.lt
                clear s0 x2 x3
                obtain ⟨ty, hty⟩ : ∃ ty, ty = (findT b ftype).getD TypeD.zero := ⟨_, rfl⟩
                rw [← hty]
                obtain ⟨ok, hok⟩ : ∃ ok, ok = (findT b ftype).isSome := ⟨_, rfl⟩
                rw [← hok]
                have Hkp : Hid (kindP b f0 ↔ (fkind < 4 → ftype.size = 0) ∧ (4 ≤ fkind → ok = true ∧ ty.enum = decide (fkind = 4))) := by
                 show _ ↔ _
                 rw [← Hf0.out, kindP, hty, hok]
                obtain ⟨tyn, tye, tyf, tyg, tyi⟩ := ty
                have Hty := Lib.hid hty
                have Hokk := Lib.hid hok
                clear hr3 hty hok
                dsimp only at Hkp
                have hwz := hw3.alloc hw3.size (.cells #[.string tyn, .bool tye, .slice B1 tyf.length l1, .slice B2 tyg.length l2, .slice B3 tyi.length l3] 38)
                by_cases hk4 : fkind < 4
                ·by_cases hts : ftype.size = 0
                 ·have Hf := Lib.hid (Hok2.out (Hkp.out.2 ⟨fun _ => hts, fun h => absurd h (by omega)⟩))
                  have hte : (ftype.toList == []) = true := by rw [show ftype = ⟨#[]⟩ from ba_size0' hts, ByteArray.toList_eq]; rfl
                  clear hts
                  go_wp2_with fail
                  go_roundw
                  case rel => exact ⟨k + 1, by go_num, by omega, feq_step He.out hlt Hf.out, hbk3.alloc _, htp3.alloc _, hwz⟩
                  case measure => simp [intOf]; omega
                 ·have Hno := Lib.hid (Hbad2.out (fun h => hts ((Hkp.out.1 h).1 hk4)))
                  have hte : (ftype.toList == []) = false := by
                   cases hq : ftype.toList with
                   | nil => exact absurd (by rw [ByteArray.toList_eq] at hq; exact congrArg List.length hq) hts
                   | cons a l => rfl
                  clear hts
                  go_wp2_with fail
                  go_ret
                  exact ⟨ret_b Hno.out.symm, hwz⟩
                ·cases ok with
                 | false =>
                  have Hno := Lib.hid (Hbad2.out (fun h => by have := ((Hkp.out.1 h).2 (by omega)).1; cases this))
                  go_wp2_with fail
                  go_ret
                  exact ⟨ret_b Hno.out.symm, hwz⟩
                 | true =>
                  obtain ⟨d, hd4⟩ : ∃ d, d = decide (fkind = 4) := ⟨_, rfl⟩
                  have hd5 : (fkind == 4) = d := by rw [hd4]; rfl
                  have Hd4 := Lib.hid hd4
                  clear hd4
                  by_cases hte : tye = d
                  ·have Hf := Lib.hid (Hok2.out (Hkp.out.2 ⟨fun h => absurd h hk4, fun _ => ⟨rfl, hte.trans Hd4.out⟩⟩))
                   subst hte
                   cases tye with
                   | true =>
                    go_wp2_with fail
                    go_roundw
                    case rel => exact ⟨k + 1, by go_num, by omega, feq_step He.out hlt Hf.out, hbk3.alloc _, htp3.alloc _, hwz⟩
                    case measure => simp [intOf]; omega
                   | false =>
                    go_wp2_with fail
                    go_roundw
                    case rel => exact ⟨k + 1, by go_num, by omega, feq_step He.out hlt Hf.out, hbk3.alloc _, htp3.alloc _, hwz⟩
                    case measure => simp [intOf]; omega
                  ·have Hno := Lib.hid (Hbad2.out (fun h => hte ((((Hkp.out.1 h).2 (by omega)).2).trans Hd4.out.symm)))
                   cases d with
                   | true =>
                    obtain rfl : tye = false := by simpa using hte
                    clear hte
                    go_wp2_with fail
                    go_ret
                    exact ⟨ret_b Hno.out.symm, hwz⟩
                   | false =>
                    obtain rfl : tye = true := by simpa using hte
                    clear hte
                    go_wp2_with fail
                    go_ret
                    exact ⟨ret_b Hno.out.symm, hwz⟩
             ·have e4 : decide (y ≥ fid) = true := by simp; omega
              have Hno := Lib.hid (hno0 (fun h => by have := h.2.1 hk0; rw [← Hf0.out] at this; dsimp only at this; omega))
              have Hye := Lib.hid hye
              clear hye hno0 hno1 hpv hbad hbad2 hfp hid
              go_wp2_with fail
              go_quiet ((first | (go_at_call 28; exact named_quiet _ _ _ hnm (by omega) HWn.out) | (go_at_call 45; exact number_quiet _ _ _ hnb)))
              go_wp2
              go_ret
              exact ⟨ret_b Hno.out.symm, below_drewN hwa _⟩
            ·have e3 : decide (0 < k) = false := by simp; omega
             have hok : (∀ q (h : q < t.fields.length), q < k → fname ≠ t.fields[q].name) → kindP b f0 → FieldAt b t k hlt := fun h hkp => by
              unfold FieldAt; rw [← Hxe.out]
              refine ⟨hfp hkp, fun h => absurd h hk0, fun j hj => ?_⟩
              have := h j (by omega) hj
              rw [← Hf0.out]; exact this
             clear hk0 hpv hno1 hfp hid
             have Hok := Lib.hid hok
             have Hbad := Lib.hid hbad
             have Hbad2 := Lib.hid hbad2
             clear hno0 hok hbad hbad2
             go_wp2_with fail
             go_quiet ((first | (go_at_call 28; exact named_quiet _ _ _ hnm (by omega) HWn.out) | (go_at_call 45; exact number_quiet _ _ _ hnb)))
             have hwq := below_drewN hwa nq
             have hbkq := hbkn.drewN nq
             have htpq := htpn.drewN nq
             have hxq : Box ((wr.alloc (.cells #[.int .i64 fid, .string fname, .string ftype, .int .i64 fkind, .int .i64 frule] 43)).drewN nq) wr.heap.size 43 [.int .i64 fid, .string fname, .string ftype, .int .i64 fkind, .int .i64 frule] := (Box.new wr _ _).drewN nq
             clear hwa hbkn htpn q0 q1 q2 q3 q4 d1 d2 d3 d4 e3 hnm hnb b2 HWn hk1 hk5 hr1 hr3
             generalize hWq : (wr.alloc (.cells #[.int .i64 fid, .string fname, .string ftype, .int .i64 fkind, .int .i64 frule] 43)).drewN nq = Wq at *
             clear hWq
             have hltx : wr.heap.size < Wq.heap.size := hxq.lt
             have hltt : w.heap.size + 1 < Wq.heap.size := htpq.lt
             have hltb : w.heap.size < Wq.heap.size := hbkq.lt
             generalize hX : wr.heap.size = X at *
             clear hX
             have c4 : Wq.cell? ⟨w.heap.size + 1, 2, none⟩ = some (.slice (some ⟨g, o, none⟩) t.fields.length k1) := htpq.cell 2
             go_wp2_with fail
             go_loopw [125] (fun i wi => ∃ j : Nat, i = .int .i64 j ∧ j ≤ k ∧ Hid (∀ q (h : q < t.fields.length), q < j → fname ≠ t.fields[q].name) ∧ Below Wq.heap.size Wq wi) (fun i _ => k - (intOf i).toNat)
             case atStart => exact ⟨0, rfl, by omega, (fun q _ hq => absurd hq (by omega) : ∀ q (h : q < t.fields.length), q < 0 → fname ≠ t.fields[q].name), Below.refl _ _⟩
             case round =>
              obtain ⟨j, rfl, hj, hd, hbi⟩ := hrel
              have hwi := below_via hwq hbi hwq.size
              have hbki := hbkq.below hbi hbkq.lt
              have htpi := htpq.below hbi htpq.lt
              have hxi := hxq.below hbi hltx
              have hXl : X < wr.heap.size := hxi.lt
              by_cases hjl : j < k
              ·have hjt : j < t.fields.length := by omega
               have hcj := (HF.out.flat (enc := fieldCells) hjt).keep (Keep.of_below hwi) hS
               obtain ⟨z, hz⟩ : ∃ z, z = t.fields[j] := ⟨_, rfl⟩
               rw [← hz] at hcj
               obtain ⟨zid, zname, ztype, zkind, zrule⟩ := z
               have p0 : wr.cell? ⟨g, o + j * 5, none⟩ = some (.int .i64 zid) := hcj.at_ 0 rfl
               have p1 : wr.cell? ⟨g, o + j * 5 + 1, none⟩ = some (.string zname) := hcj.at_ 1 rfl
               have p2 : wr.cell? ⟨g, o + j * 5 + 2, none⟩ = some (.string ztype) := hcj.at_ 2 rfl
               have p3 : wr.cell? ⟨g, o + j * 5 + 3, none⟩ = some (.int .i64 zkind) := hcj.at_ 3 rfl
               have p4 : wr.cell? ⟨g, o + j * 5 + 4, none⟩ = some (.int .i64 zrule) := hcj.at_ 4 rfl
               have c0 : wr.cell? ⟨X, 1, none⟩ = some (.string fname) := hxi.cell 1
               have hgl : g < wr.heap.size := by have := hbi.size; omega
               have hzn : zname = t.fields[j].name := by rw [← hz]
               have Hzn := Lib.hid hzn
               clear hz hcj c4 hzn
               have hwj := hwi.alloc hwi.size (.cells #[.int .i64 zid, .string zname, .string ztype, .int .i64 zkind, .int .i64 zrule] 43)
               have hbj := hbi.alloc hbi.size (.cells #[.int .i64 zid, .string zname, .string ztype, .int .i64 zkind, .int .i64 zrule] 43)
               by_cases hxz : fname = zname
               ·have Hno := Lib.hid (Hbad.out j hjt hjl (hxz.trans Hzn.out))
                subst hxz
                go_wp2_with fail
                go_ret
                exact ⟨ret_b Hno.out.symm, hwj⟩
               ·have hne : (fname.toList == zname.toList) = false := by rw [ba_eq]; simpa using hxz
                go_wp2_with fail
                go_roundw
                case rel =>
                 refine ⟨j + 1, by go_num, by omega, ?_, hbj⟩
                 show ∀ q (h : q < t.fields.length), q < j + 1 → fname ≠ t.fields[q].name
                 intro q hq hqj
                 by_cases hqj' : q < j
                 ·exact hd.out q hq hqj'
                 ·have : q = j := by omega
                  subst this
                  rw [← Hzn.out]; exact hxz
                case measure => simp [intOf]; omega
              ·have hkk : j = k := by omega
               have Hok2 := Lib.hid (fun h : kindP b f0 => Hok.out (fun q hq hqk => hd.out q hq (by omega)) h)
               have s0 : wr.cell? ⟨w.heap.size, 0, none⟩ = some (.slice A b.length cap) := hbki.cell 0
               have x2 : wr.cell? ⟨X, 2, none⟩ = some (.string ftype) := hxi.cell 2
               have x3 : wr.cell? ⟨X, 3, none⟩ = some (.int .i64 fkind) := hxi.cell 3
               have hltb2 : w.heap.size < wr.heap.size := hbki.lt
               clear c4 hkk hd Hok
               go_wp2_with fail
               refine (find_any S _ b ftype _ ((RSl.fair RType.fair).below HB.out hwi)).mono ?_
               rintro e w3 ⟨cs3, rfl, hr3, hb3⟩
               obtain ⟨B1, l1, B2, l2, B3, l3, rfl, -, -, -⟩ := hr3.parts
               have hw3 := below_via hwi hb3 hwi.size
               have hbk3 := hbki.below hb3 hltb2
               have htp3 := htpi.below hb3 htpi.lt
               have hx3 := (hxi.below hb3 hxi.lt)
               have y2 := hx3.cell 2
               have y3 := hx3.cell 3
               simp only [List.getElem?_cons_zero, List.getElem?_cons_succ] at y2 y3
               have hXl3 : X < w3.heap.size := hx3.lt
               clear s0 x2 x3
               obtain ⟨ty, hty⟩ : ∃ ty, ty = (findT b ftype).getD TypeD.zero := ⟨_, rfl⟩
               rw [← hty]
               obtain ⟨ok, hok⟩ : ∃ ok, ok = (findT b ftype).isSome := ⟨_, rfl⟩
               rw [← hok]
               have Hkp : Hid (kindP b f0 ↔ (fkind < 4 → ftype.size = 0) ∧ (4 ≤ fkind → ok = true ∧ ty.enum = decide (fkind = 4))) := by
                show _ ↔ _
                rw [← Hf0.out, kindP, hty, hok]
               obtain ⟨tyn, tye, tyf, tyg, tyi⟩ := ty
               have Hty := Lib.hid hty
               have Hokk := Lib.hid hok
               clear hr3 hty hok
               dsimp only at Hkp
               have hwz := hw3.alloc hw3.size (.cells #[.string tyn, .bool tye, .slice B1 tyf.length l1, .slice B2 tyg.length l2, .slice B3 tyi.length l3] 38)
               by_cases hk4 : fkind < 4
               ·by_cases hts : ftype.size = 0
                ·have Hf := Lib.hid (Hok2.out (Hkp.out.2 ⟨fun _ => hts, fun h => absurd h (by omega)⟩))
                 have hte : (ftype.toList == []) = true := by rw [show ftype = ⟨#[]⟩ from ba_size0' hts, ByteArray.toList_eq]; rfl
                 clear hts
                 go_wp2_with fail
                 go_roundw
                 case rel => exact ⟨k + 1, by go_num, by omega, feq_step He.out hlt Hf.out, hbk3.alloc _, htp3.alloc _, hwz⟩
                 case measure => simp [intOf]; omega
                ·have Hno := Lib.hid (Hbad2.out (fun h => hts ((Hkp.out.1 h).1 hk4)))
                 have hte : (ftype.toList == []) = false := by
                  cases hq : ftype.toList with
                  | nil => exact absurd (by rw [ByteArray.toList_eq] at hq; exact congrArg List.length hq) hts
                  | cons a l => rfl
                 clear hts
                 go_wp2_with fail
                 go_ret
                 exact ⟨ret_b Hno.out.symm, hwz⟩
               ·cases ok with
                | false =>
                 have Hno := Lib.hid (Hbad2.out (fun h => by have := ((Hkp.out.1 h).2 (by omega)).1; cases this))
                 go_wp2_with fail
                 go_ret
                 exact ⟨ret_b Hno.out.symm, hwz⟩
                | true =>
                 obtain ⟨d, hd4⟩ : ∃ d, d = decide (fkind = 4) := ⟨_, rfl⟩
                 have hd5 : (fkind == 4) = d := by rw [hd4]; rfl
                 have Hd4 := Lib.hid hd4
                 clear hd4
                 by_cases hte : tye = d
                 ·have Hf := Lib.hid (Hok2.out (Hkp.out.2 ⟨fun h => absurd h hk4, fun _ => ⟨rfl, hte.trans Hd4.out⟩⟩))
                  subst hte
                  cases tye with
                  | true =>
                   go_wp2_with fail
                   go_roundw
                   case rel => exact ⟨k + 1, by go_num, by omega, feq_step He.out hlt Hf.out, hbk3.alloc _, htp3.alloc _, hwz⟩
                   case measure => simp [intOf]; omega
                  | false =>
                   go_wp2_with fail
                   go_roundw
                   case rel => exact ⟨k + 1, by go_num, by omega, feq_step He.out hlt Hf.out, hbk3.alloc _, htp3.alloc _, hwz⟩
                   case measure => simp [intOf]; omega
                 ·have Hno := Lib.hid (Hbad2.out (fun h => hte ((((Hkp.out.1 h).2 (by omega)).2).trans Hd4.out.symm)))
                  cases d with
                  | true =>
                   obtain rfl : tye = false := by simpa using hte
                   clear hte
                   go_wp2_with fail
                   go_ret
                   exact ⟨ret_b Hno.out.symm, hwz⟩
                  | false =>
                   obtain rfl : tye = true := by simpa using hte
                   clear hte
                   go_wp2_with fail
                   go_ret
                   exact ⟨ret_b Hno.out.symm, hwz⟩
           ·have d4 : decide (frule > 3) = true := by simp; omega
            have Hno := Lib.hid (hno1 (fun h => by omega))
            clear hno0 hno1 hpv hid
            go_wp2_with fail
            go_quiet ((first | (go_at_call 28; exact named_quiet _ _ _ hnm (by omega) HWn.out) | (go_at_call 45; exact number_quiet _ _ _ hnb)))
            go_wp2
            go_ret
            exact ⟨ret_b Hno.out.symm, below_drewN hwa _⟩
          ·have d3 : decide (frule < 1) = true := by simp; omega
           have Hno := Lib.hid (hno1 (fun h => by omega))
           clear hno0 hno1 hpv hid
           go_wp2_with fail
           go_quiet ((first | (go_at_call 28; exact named_quiet _ _ _ hnm (by omega) HWn.out) | (go_at_call 45; exact number_quiet _ _ _ hnb)))
           go_wp2
           go_ret
           exact ⟨ret_b Hno.out.symm, below_drewN hwa _⟩
         ·have d2 : decide (fkind > 5) = true := by simp; omega
          have Hno := Lib.hid (hno1 (fun h => by omega))
          clear hno0 hno1 hpv hid
          go_wp2_with fail
          go_quiet ((first | (go_at_call 28; exact named_quiet _ _ _ hnm (by omega) HWn.out) | (go_at_call 45; exact number_quiet _ _ _ hnb)))
          go_wp2
          go_ret
          exact ⟨ret_b Hno.out.symm, below_drewN hwa _⟩
        ·have d1 : decide (fkind < 1) = true := by simp; omega
         have Hno := Lib.hid (hno1 (fun h => by omega))
         clear hno0 hno1 hpv hid
         go_wp2_with fail
         go_quiet ((first | (go_at_call 28; exact named_quiet _ _ _ hnm (by omega) HWn.out) | (go_at_call 45; exact number_quiet _ _ _ hnb)))
         go_wp2
         go_ret
         exact ⟨ret_b Hno.out.symm, below_drewN hwa _⟩
       ·have hnb : decide (1 ≤ fid ∧ fid ≤ 30) = false := by simpa using hid
        have Hno := Lib.hid (hno1 (fun h => hid ⟨h.2.1, h.2.2.1⟩))
        clear hno0 hno1 hpv hid
        go_wp2_with fail
        go_quiet ((first | (go_at_call 28; exact named_quiet _ _ _ hnm (by omega) HWn.out) | (go_at_call 45; exact number_quiet _ _ _ hnb)))
        go_wp2
        go_ret
        exact ⟨ret_b Hno.out.symm, below_drewN hwa _⟩
      ·have Hno := Lib.hid (hno1 (fun h => hnm h.1))
       simp only [Bool.not_eq_true] at hnm
       have hnb : decide (1 ≤ fid ∧ fid ≤ 30) = decide (1 ≤ fid ∧ fid ≤ 30) := rfl
       clear hno0 hno1 hpv
       go_wp2_with fail
       go_quiet ((first | (go_at_call 28; exact named_quiet _ _ _ hnm (by omega) HWn.out) | (go_at_call 45; exact number_quiet _ _ _ hnb)))
       go_wp2
       go_ret
       exact ⟨ret_b Hno.out.symm, below_drewN hwa _⟩
     ·have Hyes := Lib.hid (msg_yes (b := b) H1.out HGone.out (fun j h => He.out j h (by omega)))
      go_wp2_with fail
      go_ret
      exact ⟨ret_b Hyes.out.symm, hb⟩
 ·have h2 : 5 < t.fields.length ∨ (t.fields.length ≤ 5 ∧ 0 < t.items.length) ∨ (t.fields.length ≤ 5 ∧ t.items.length = 0 ∧ 30 < t.gone.length) := by omega
  have Hno := Lib.hid (msg_no1 (b := b) h1)
  clear h1
  rcases h2 with h2 | ⟨h2, h3⟩ | ⟨h2, h3, h4⟩
  ·go_wp2_with fail
   go_ret
   exact ⟨ret_b Hno.out.symm, ((Below.refl _ _).alloc (Nat.le_refl _) _).alloc (by simp) _⟩
  ·go_wp2_with fail
   go_ret
   exact ⟨ret_b Hno.out.symm, ((Below.refl _ _).alloc (Nat.le_refl _) _).alloc (by simp) _⟩
  ·have h3' : ¬ 0 < t.items.length := by omega
   clear h3
   go_wp2_with fail
   go_ret
   exact ⟨ret_b Hno.out.symm, ((Below.refl _ _).alloc (Nat.le_refl _) _).alloc (by simp) _⟩
end Go.Proofs.YtihdnjnhhhafkaaGreatDoor
