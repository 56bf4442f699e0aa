/- The walk of Print. -/
import Derived.Test.YtfobdbhmfohfnaaGreatDoorBuilder
import Derived.Test.YtfobdbhmfohfnaaGreatDoorBookGood
import Derived.Test.YtfobdbhmfohfnaaGreatDoorMessage
import Derived.Test.YtfobdbhmfohfnaaGreatDoorPLaw
import Derived.Deep.CutBlock
set_option maxRecDepth 100000
set_option maxHeartbeats 8000000
namespace Go.Proofs.YtfobdbhmfohfnaaGreatDoor
open Go.RowKit
def PrintEnd (w : World) (p : List UInt8 × Int) (e : Ending) (w' : World) : Prop :=
 e = .returned (.tuple #[.string ⟨p.1.toArray⟩, .int .i64 p.2]) ∧ Below w.heap.size w w'
theorem PSt.fresh {w w1 : World} (hb : Below w.heap.size w w1) (whole : List UInt8) : PSt w w1.heap.size whole whole (w1.alloc (.cells #[.pointer none, .slice none 0 0] 54)) :=
 ⟨[], rfl, .inl ⟨hb.size, _, heap_alloc_new w1 _, World.ownsRow_nil _ _ _ _, by simp [Value.ownBlock]⟩, hb.alloc hb.size _⟩
def itoaS (n : Int) : ByteArray := ⟨(Lib.itoa n).toArray⟩
theorem tail_enum {t : TypeD} (h : t.enum = true) (R : List UInt8) : printType t ++ R = bytes (⟨#[101, 110, 117, 109, 32]⟩ ++ t.name ++ ⟨#[32, 123, 10]⟩) ++ (t.items.flatMap printItem ++ ([125, 10] ++ R)) := by
 simp [printType, h, bytes, wEnum]
theorem tail_msg {t : TypeD} (h : t.enum = false) (R : List UInt8) : printType t ++ R = bytes (⟨#[109, 101, 115, 115, 97, 103, 101, 32]⟩ ++ t.name ++ ⟨#[32, 123, 10]⟩) ++ (t.fields.flatMap printField ++ (printGone t.gone ++ ([125, 10] ++ R))) := by
 simp [printType, h, bytes, wMessage]
theorem tail_item (x : ItemD) (R : List UInt8) : printItem x ++ R = bytes (⟨#[32, 32]⟩ ++ itoaS x.n ++ ⟨#[32]⟩ ++ x.name ++ ⟨#[59, 10]⟩) ++ R := by
 simp [printItem, itoaS, bytes]
theorem tail_field (f : FieldD) (R : List UInt8) : printField f ++ R = bytes (⟨#[32, 32]⟩ ++ itoaS f.id ++ ⟨#[32]⟩ ++ ruleName f ++ ⟨#[32]⟩ ++ kindName f ++ ⟨#[32]⟩ ++ f.name ++ ⟨#[59, 10]⟩) ++ R := by
 simp [printField, itoaS, bytes]
theorem bytes_add (a b : ByteArray) : bytes (a ++ b) = bytes a ++ bytes b := by simp [bytes]
theorem named_short {s : ByteArray} (h : namedF s = true) : s.size ≤ 12 := by
 unfold namedF at h
 simp only [Bool.and_eq_true, decide_eq_true_eq] at h
 exact h.1.2.2
theorem kindName_len {b : BookD} (hg : goodF b = 0) {t : TypeD} (ht : t ∈ b) (he : t.enum = false) {f : FieldD} (hf : f ∈ t.fields) : (kindName f).size ≤ 12 := by
 have hf' := good_fieldOk hg ht he hf
 have hfp := msg_field (good_msg hg ht he) hf
 obtain ⟨_, h1, h30, hk1, hk5, hr1, hr3, _⟩ := hf'
 unfold kindName
 split
 ·have : f.kind = 1 ∨ f.kind = 2 ∨ f.kind = 3 := by omega
  rcases this with e | e | e <;> rw [e] <;> decide
 ·have hk := (hfp.2.2.2.2.2.2.2.2 (by omega)).1
  obtain ⟨t2, h2⟩ := Option.isSome_iff_exists.1 hk
  unfold findT at h2
  have hm := List.mem_of_find?_eq_some h2
  have hq := List.find?_some h2
  simp only [decide_eq_true_eq] at hq
  obtain ⟨i, hi, rfl⟩ := List.getElem_of_mem hm
  rw [← hq]
  exact named_short ((good_parts hg).2.1 i hi).1
theorem PSt.old {w0 w : World} {bb : Nat} {whole tail : List UInt8} (h : PSt w0 bb whole tail w) : Below w0.heap.size w0 w := by obtain ⟨_, _, _, h⟩ := h; exact h
theorem itoaS_len {n : Int} (h1 : -1099511627776 ≤ n) (h2 : n ≤ 1099511627776) : (itoaS n).size ≤ 14 := by
 have := itoa_len h1 h2
 show (Lib.itoa n).toArray.size ≤ 14
 simpa using this
theorem itoa_any (n : Int) (h1 : -1099511627776 ≤ n) (h2 : n ≤ 1099511627776) (w : World) (hN : Nums w) : Calls Tryz.prog 31 #[.int .i64 n] w (Ret w (.string (itoaS n))) := by
 refine (Tryz.strconv_Itoa n (by omega) (by omega) w hN.1).mono ?_
 rintro e w3 ⟨rfl, k, os, rfl⟩
 exact ⟨rfl, Lib.below_grow w.heap.size w (Nat.le_refl _) k os⟩
theorem print_any (S : Nat → Prop) (vb : Value) (b : BookD) (w : World) (hb0 : RSl 5 96 RType S w [vb] b) (hW : Words w) (hN : Nums w) (hL : Lists w) (hsz : BookOk b) :
  Calls Tryz.prog 8 #[.agg #[vb]] w (PrintEnd w (printF b)) := by
 obtain ⟨p, hp⟩ : ∃ p, p = printF b := ⟨_, rfl⟩
 rw [← hp]
 have Hp := Lib.hid hp
 obtain ⟨A, cap, rfl, hlc, hlb⟩ := hb0.form
 have HB := Lib.hid hb0
 have HN := Lib.hid hN
 have HL := Lib.hid hL
 have hG0 : Below w.heap.size w (w.alloc (.cells [Value.slice A b.length cap].toArray 24)) := (Below.here w).alloc (Nat.le_refl _) _
 have hZ0 := Box.new w 24 [.slice A b.length cap]
 have hgd := Lib.hid (fun W (hW' : Below w.heap.size w W) => good_any S _ b W ((RSl.fair RType.fair).below hb0 hW') (hW.below hW') hsz)
 obtain ⟨ge, hge⟩ : ∃ ge, ge = goodF b := ⟨_, rfl⟩
 rw [← hge] at hgd
 have Hge := Lib.hid hge
 clear hb0 hW hN hL hp hge
 go_enter Tryz.func8, Tryz.ntmps8
 go_wp2_with fail
 refine (hgd.out _ hG0).mono ?_
 rintro e w1 ⟨rfl, hb1⟩
 have hZ1 := hZ0.below hb1 hZ0.lt
 have hG1 := below_via hG0 hb1 hG0.size
 have z0 := hZ1.cell 0
 clear hZ0 hG0 hb1 hgd
 by_cases hg0 : ge = 0
 ·--[GOOD
  have Hg : Hid (goodF b = 0) := by show _ = _; rw [← Hge.out]; exact hg0
  have He : Hid (p = (b.flatMap printType, 0)) := by show _ = _; rw [Hp.out]; exact printF_good Hg.out
  have Hwl := Lib.hid (print_len Hg.out)
  obtain ⟨whole, hwh⟩ : ∃ x, x = b.flatMap printType := ⟨_, rfl⟩
  have hP0 := PSt.fresh hG1 whole
  have Hwh := Lib.hid hwh
  subst hg0
  have hlb' : b.length ≤ 4 := (good_parts Hg.out).1
  clear hwh
  have zl := hZ1.lt
  go_wp2_with fail
  have hbb : w.heap.size < w1.heap.size := zl
  generalize w1.heap.size = bb at hP0 hbb ⊢
  generalize (World.alloc w1 _) = w2 at hP0 ⊢
  clear z0 zl hZ1 hG1
  go_loopw [23] (fun i wr => ∃ n : Nat, i = .int .i64 n ∧ n ≤ b.length ∧ PSt w bb whole ((b.drop n).flatMap printType) wr) (fun i _ => b.length - (intOf i).toNat)
  case atStart => exact ⟨0, rfl, Nat.zero_le _, by rw [List.drop_zero, ← Hwh.out]; exact hP0⟩
  case round =>
   clear hP0
   obtain ⟨n, rfl, hn, hP⟩ := hrel
   by_cases hlt : n < b.length
   ·--[RND
    obtain ⟨g, o, es, rfl, hSg, hgw, hes, hre, hc0⟩ := HB.out.at_ hlt
    have hbl : Below w.heap.size w wr := by obtain ⟨_, _, _, h⟩ := hP; exact h
    have hc := hc0.keep (Keep.of_below hbl) hSg
    have hgl : g < wr.heap.size := Nat.lt_of_lt_of_le hgw hbl.size
    obtain ⟨t, ht⟩ : ∃ t, t = b[n] := ⟨_, rfl⟩
    rw [← ht] at hre
    have htm : t ∈ b := by rw [ht]; exact List.getElem_mem hlt
    have htl : Hid ((b.drop n).flatMap printType = printType t ++ (b.drop (n + 1)).flatMap printType) := by
     show _ = _
     rw [List.drop_eq_getElem_cons hlt, List.flatMap_cons, ← ht]
    rw [htl.out] at hP
    obtain ⟨R, hR⟩ : ∃ R, R = (b.drop (n + 1)).flatMap printType := ⟨_, rfl⟩
    rw [← hR] at hP
    have HR := Lib.hid hR
    obtain ⟨A1, k1, A2, k2, A3, k3, rfl, hrf, hrg, hri⟩ := hre.parts
    have q0 : wr.cell? ⟨g, o + n * 5, none⟩ = some (.string t.name) := hc.at_ 0 rfl
    have q1 : wr.cell? ⟨g, o + n * 5 + 1, none⟩ = some (.bool t.enum) := hc.at_ 1 rfl
    have q2 : wr.cell? ⟨g, o + n * 5 + 2, none⟩ = some (.slice A1 t.fields.length k1) := hc.at_ 2 rfl
    have q3 : wr.cell? ⟨g, o + n * 5 + 3, none⟩ = some (.slice A2 t.gone.length k2) := hc.at_ 3 rfl
    have q4 : wr.cell? ⟨g, o + n * 5 + 4, none⟩ = some (.slice A3 t.items.length k3) := hc.at_ 4 rfl
    have Hrf := Lib.hid hrf
    have Hrg := Lib.hid hrg
    have Hri := Lib.hid hri
    have Htm := Lib.hid htm
    have hbg : bb < wr.heap.size := by obtain ⟨_, _, h, _⟩ := hP; exact h.lt.2
    have hP1 := hP.below ((Below.here wr).alloc (Nat.le_refl _) (.cells #[.string t.name, .bool t.enum, .slice A1 t.fields.length k1, .slice A2 t.gone.length k2, .slice A3 t.items.length k3] 40))
    have hY1 := Box.new wr 40 [.string t.name, .bool t.enum, .slice A1 t.fields.length k1, .slice A2 t.gone.length k2, .slice A3 t.items.length k3]
    have e1 : IntKind.i64.wrap ((n : Int) + 1) = (n : Int) + 1 := IntWalk.i64_in _ (by omega)
    have hlt' : (n : Int) < (b.length : Int) := by omega
    have hnz : (0 : Int) ≤ (n : Int) := by omega
    clear hc0 hc hre hrf hrg hri htm ht hR hP hSg hes hbl hlb
    go_upto_region 8 with fail
    have hYw : w.heap.size < wr.heap.size := Nat.lt_trans hbb hbg
    generalize wr.heap.size = Y at hY1 hbg hYw ⊢
    generalize (World.alloc wr _) = w1' at hP1 hY1 ⊢
    clear q0 q1 q2 q3 q4 hgl
    obtain ⟨y0, y1, y2, y3, y4⟩ := hY1.five
    have yl := hY1.lt
    have hnl : t.name.size ≤ 12 := by
     have hg := Hg.out
     obtain ⟨i, hi, rfl⟩ := List.getElem_of_mem Htm.out
     have := ((good_parts hg).2.1 i hi).1
     unfold namedF at this
     simp only [Bool.and_eq_true, decide_eq_true_eq] at this
     exact this.1.2.2
    cases hen : t.enum with
    | true =>
     rw [hen] at y1
     have hw1 := Lib.hid (hP1.write (⟨#[101, 110, 117, 109, 32]⟩ ++ t.name ++ ⟨#[32, 123, 10]⟩) (tail_enum hen R) (by have := Hwl.out; rw [← Hwh.out] at this; omega))
     go_wp2_with fail
     refine hw1.out.mono ?_
     rintro e w2 ⟨rfl, hP2, ho2, hs2⟩
     have hY2 := ho2 _ _ _ (by decide) (show Y ≠ bb by omega) hY1
     have y4' : w2.cell? ⟨Y, 4, none⟩ = some (.slice A3 t.items.length k3) := hY2.cell 4
     have yl' := hY2.lt
     clear hY1 hY2 hP1 ho2 hs2 y0 y1 y2 y3 y4 yl
     go_wp2_with fail
     clear y4' yl'
     go_loopw [37] (fun i wr => ∃ k : Nat, i = .int .i64 k ∧ k ≤ t.items.length ∧ PSt w bb whole ((t.items.drop k).flatMap printItem ++ ([125, 10] ++ R)) wr) (fun i _ => t.items.length - (intOf i).toNat)
     case atStart => exact ⟨0, rfl, Nat.zero_le _, hP2⟩
     case round =>
      clear hP2
      obtain ⟨k, rfl, hk, hP⟩ := hrel
      have hil : t.items.length ≤ 6 := (good_enum Hg.out Htm.out hen).2.2.1
      by_cases hkl : k < t.items.length
      ·--[ITEM
       have hkl' : (k : Int) < (t.items.length : Int) := by omega
       have hkz : (0 : Int) ≤ (k : Int) := by omega
       have e2 : IntKind.i64.wrap ((k : Int) + 1) = (k : Int) + 1 := IntWalk.i64_in _ (by omega)
       obtain ⟨g2, o2, es2, rfl, hS2, hgw2, -, hre2, hc2⟩ := Hri.out.at_ hkl
       have hbl2 : Below w.heap.size w wr := by obtain ⟨_, _, _, h⟩ := hP; exact h
       have hc2' := hc2.keep (Keep.of_below hbl2) hS2
       have hgl2 : g2 < wr.heap.size := Nat.lt_of_lt_of_le hgw2 hbl2.size
       obtain ⟨x, hx⟩ : ∃ x, x = t.items[k] := ⟨_, rfl⟩
       rw [← hx] at hre2
       have he2 : es2 = itemCells x := hre2
       subst he2
       have r0 : wr.cell? ⟨g2, o2 + k * 2, none⟩ = some (.string x.name) := hc2'.at_ 0 rfl
       have r1 : wr.cell? ⟨g2, o2 + k * 2 + 1, none⟩ = some (.int .i64 x.n) := hc2'.at_ 1 rfl
       have htl2 : Hid ((t.items.drop k).flatMap printItem ++ ([125, 10] ++ R) = printItem x ++ ((t.items.drop (k + 1)).flatMap printItem ++ ([125, 10] ++ R))) := by
        show _ = _
        rw [List.drop_eq_getElem_cons hkl, List.flatMap_cons, ← hx, List.append_assoc]
       rw [htl2.out] at hP
       have hxg := (good_enum Hg.out Htm.out hen).1 k hkl
       rw [← hx] at hxg
       have hx1 : -1099511627776 ≤ x.n := hxg.2.1
       have hx2 : x.n ≤ 1099511627776 := hxg.2.2.1
       have hxn : x.name.size ≤ 12 := named_short hxg.1
       have hbg2 : bb < wr.heap.size := by obtain ⟨_, _, h, _⟩ := hP; exact h.lt.2
       have hP3 := hP.below ((Below.here wr).alloc (Nat.le_refl _) (.cells #[.string x.name, .int .i64 x.n] 60))
       have hY3 := Box.new wr 60 [.string x.name, .int .i64 x.n]
       clear hc2 hc2' hre2 hx hP hS2 hgw2 hbl2 hxg
       go_upto_region 13 with fail
       clear r0 r1 hgl2
       generalize wr.heap.size = Y3 at hY3 hbg2 ⊢
       generalize (World.alloc wr _) = w3 at hP3 hY3 ⊢
       have hS : (fun W' => World.cell? W' ⟨Y3, 0, none⟩ = some (.string x.name) ∧ World.cell? W' ⟨Y3, 1, none⟩ = some (.int .i64 x.n)) w3.drew := ⟨hY3.drew.cell 0, hY3.drew.cell 1⟩
       have hPd := hP3.below (below_drew (Below.here w3))
       have hYd := hY3.drew
       refine lateP_start (fun W' => World.cell? W' ⟨Y3, 0, none⟩ = some (.string x.name) ∧ World.cell? W' ⟨Y3, 1, none⟩ = some (.int .i64 x.n)) (fun i => i != 9) (by kernel_rfl) ?_
       clear hP3 hY3
       generalize w3.drew = Wd at hPd hYd hS ⊢
       refine ppP 0 ?_
       try simp only [pu]
       refine tkP 1 hS ?_
       try simp only [pu]
       refine ppP 5 ?_
       try simp only [pu]
       refine tkP 6 hS ?_
       try simp only [pu]
       refine lateP_one (i := 2) rfl (by kernel_rfl) (fun K hK => ?_)
       go_simp
       refine (itoa_any x.n hx1 hx2 Wd (HN.out.below hPd.old)).mono ?_
       rintro e w5 ⟨rfl, hb5⟩
       have hP5 := hPd.below hb5
       have hY5 := hYd.below hb5 hYd.lt
       replace hS : (fun W' => World.cell? W' ⟨Y3, 0, none⟩ = some (.string x.name) ∧ World.cell? W' ⟨Y3, 1, none⟩ = some (.int .i64 x.n)) w5 := ⟨hY5.cell 0, hY5.cell 1⟩
       clear hPd hYd hb5
       refine hK.out _ _ (fun _ _ => hS) ?_
       clear hK K
       try simp only [pu]
       have hsv := itoaS_len hx1 hx2
       have htl3 := tail_item x ((t.items.drop (k + 1)).flatMap printItem ++ ([125, 10] ++ R))
       have hw6 := Lib.hid (hP5.write _ htl3 (by have := Hwl.out; rw [← Hwh.out] at this; omega))
       generalize itoaS x.n = sv at hsv hw6 ⊢
       have g1 : ¬ 9223372036854775807 < 2 + sv.size := by omega
       have g2 : ¬ 9223372036854775807 < 2 + sv.size + 1 := by omega
       have g3 : ¬ 9223372036854775807 < 2 + sv.size + 1 + x.name.size := by omega
       have g4 : ¬ 9223372036854775807 < 2 + sv.size + 1 + x.name.size + 2 := by omega
       clear htl3 hsv
       refine ppP 3 ?_
       try simp only [pu]
       refine ppP 4 ?_
       try simp only [pu]
       refine ppP 7 ?_
       try simp only [pu]
       refine ppP 8 ?_
       try simp only [pu]
       refine lateP_one (i := 9) rfl (by kernel_rfl) (fun K hK => ?_)
       go_simp
       refine hw6.out.mono ?_
       rintro e w6 ⟨rfl, hP6, -, -⟩
       refine hK.out _ _ (fun h => absurd h (by decide)) ?_
       clear hK K
       try simp only [pu]
       refine lateP_done (by kernel_rfl) ?_ _
       clear hS g1 g2 g3 g4 hP5 hY5
       go_wp2_with fail
       go_roundw
       case rel => exact ⟨k + 1, by simp, by omega, hP6⟩
       case measure => go_light; simp [intOf]; omega
      ·--[IEND
       obtain rfl : k = t.items.length := by omega
       have Hd : Hid ((t.items.drop t.items.length).flatMap printItem ++ ([125, 10] ++ R) = bytes ⟨#[125, 10]⟩ ++ (b.drop (n + 1)).flatMap printType) := by show _ = _; rw [HR.out]; simp [bytes]
       have hw3 := Lib.hid (hP.write ⟨#[125, 10]⟩ Hd.out (by have := Hwl.out; rw [← Hwh.out] at this; omega))
       clear hk hkl
       go_wp2_with fail
       refine hw3.out.mono ?_
       rintro e w3 ⟨rfl, hP3, -, -⟩
       go_wp2_with fail
       go_roundw
       case rel => exact ⟨n + 1, by simp, by omega, hP3⟩
       case measure => go_light; simp [intOf]; omega
    | false =>
     rw [hen] at y1
     have hmsg := good_msg Hg.out Htm.out hen
     have hw1 := Lib.hid (hP1.write (⟨#[109, 101, 115, 115, 97, 103, 101, 32]⟩ ++ t.name ++ ⟨#[32, 123, 10]⟩) (tail_msg hen R) (by have := Hwl.out; rw [← Hwh.out] at this; omega))
     have hfl : t.fields.length ≤ 5 := hmsg.1
     have hgl : t.gone.length ≤ 30 := hmsg.2.2.1
     have Hmsg := Lib.hid hmsg
     have Hen := Lib.hid hen
     clear hmsg
     go_wp2_with fail
     refine hw1.out.mono ?_
     rintro e w2 ⟨rfl, hP2, ho2, hs2⟩
     have hY2 := ho2 _ _ _ (by decide) (show Y ≠ bb by omega) hY1
     have y2' : w2.cell? ⟨Y, 2, none⟩ = some (.slice A1 t.fields.length k1) := hY2.cell 2
     rw [hen] at hY2
     have yl' := hY2.lt
     clear hY1 hP1 ho2 hs2 y0 y1 y2 y3 y4 yl
     go_wp2_with fail
     clear y2' yl'
     go_loopw [61] (fun i wr => ∃ k : Nat, i = .int .i64 k ∧ k ≤ t.fields.length ∧ PSt w bb whole ((t.fields.drop k).flatMap printField ++ (printGone t.gone ++ ([125, 10] ++ R))) wr ∧ Box wr Y 40 [.string t.name, .bool false, .slice A1 t.fields.length k1, .slice A2 t.gone.length k2, .slice A3 t.items.length k3]) (fun i _ => t.fields.length - (intOf i).toNat)
     case atStart => exact ⟨0, rfl, Nat.zero_le _, hP2, hY2⟩
     case round =>
      clear hP2 hY2
      obtain ⟨k, rfl, hk, hP, hY⟩ := hrel
      by_cases hkl : k < t.fields.length
      ·--[FLD
       have hkl' : (k : Int) < (t.fields.length : Int) := by omega
       have hkz : (0 : Int) ≤ (k : Int) := by omega
       have e2 : IntKind.i64.wrap ((k : Int) + 1) = (k : Int) + 1 := IntWalk.i64_in _ (by omega)
       obtain ⟨g2, o2, es2, rfl, hS2, hgw2, -, hre2, hc2⟩ := Hrf.out.at_ hkl
       have hbl2 : Below w.heap.size w wr := hP.old
       have hc2' := hc2.keep (Keep.of_below hbl2) hS2
       have hgl2 : g2 < wr.heap.size := Nat.lt_of_lt_of_le hgw2 hbl2.size
       obtain ⟨f, hf⟩ : ∃ x, x = t.fields[k] := ⟨_, rfl⟩
       rw [← hf] at hre2
       have he2 : es2 = fieldCells f := hre2
       subst he2
       have htl2 : Hid ((t.fields.drop k).flatMap printField ++ (printGone t.gone ++ ([125, 10] ++ R)) = printField f ++ ((t.fields.drop (k + 1)).flatMap printField ++ (printGone t.gone ++ ([125, 10] ++ R)))) := by
        show _ = _
        rw [List.drop_eq_getElem_cons hkl, List.flatMap_cons, ← hf, List.append_assoc]
       rw [htl2.out] at hP
       have hfm : f ∈ t.fields := by rw [hf]; exact List.getElem_mem hkl
       obtain ⟨hnf, hi1, hi30, hk1, hk5, hr1, hr3, -⟩ := msg_field Hmsg.out hfm
       have hkn := kindName_len Hg.out Htm.out Hen.out hfm
       have hfn : f.name.size ≤ 12 := named_short hnf
       obtain ⟨kn, hkne⟩ : ∃ kn, kn = kindName f := ⟨_, rfl⟩
       obtain ⟨rn, hrne⟩ : ∃ rn, rn = ruleName f := ⟨_, rfl⟩
       rw [← hkne] at hkn
       have htl3 := tail_field f ((t.fields.drop (k + 1)).flatMap printField ++ (printGone t.gone ++ ([125, 10] ++ R)))
       rw [← hkne, ← hrne] at htl3
       obtain ⟨fi, fn, ft, fk, fr⟩ := f
       dsimp only at hi1 hi30 hk1 hk5 hr1 hr3 hfn htl3
       obtain ⟨kk, rfl⟩ : ∃ kk : Nat, fk = kk := ⟨fk.toNat, by omega⟩
       obtain ⟨rr, rfl⟩ : ∃ rr : Nat, fr = rr := ⟨fr.toNat, by omega⟩
       obtain ⟨⟨er, hbr⟩, ⟨ek, hbk⟩⟩ := HL.out.below hbl2
       have hrc : (rulesL.map Value.string)[rr]? = some (.string rn) ∧ rn.size ≤ 5 := by
        rw [hrne]
        rcases (by omega : rr = 1 ∨ rr = 2 ∨ rr = 3) with rfl | rfl | rfl
        ·exact ⟨rfl, by show wOne.size ≤ 5; decide⟩
        ·exact ⟨rfl, by show wMaybe.size ≤ 5; decide⟩
        ·exact ⟨rfl, by show wMany.size ≤ 5; decide⟩
       have hrn := hrc.2
       have hkc : kk < 4 → (kindsL.map Value.string)[kk]? = some (.string kn) := by
        intro h4
        rw [hkne]
        rcases (by omega : kk = 1 ∨ kk = 2 ∨ kk = 3) with rfl | rfl | rfl
        ·rfl
        ·rfl
        ·rfl
       have hkt : ¬ kk < 4 → kn = ft := by
        intro h4
        rw [hkne]
        unfold kindName
        rw [if_neg (by show ¬ (kk : Int) < 4; omega)]
       have r0 : wr.cell? ⟨g2, o2 + k * 5, none⟩ = some (.int .i64 fi) := hc2'.at_ 0 rfl
       have r1 : wr.cell? ⟨g2, o2 + k * 5 + 1, none⟩ = some (.string fn) := hc2'.at_ 1 rfl
       have r2 : wr.cell? ⟨g2, o2 + k * 5 + 2, none⟩ = some (.string ft) := hc2'.at_ 2 rfl
       have r3 : wr.cell? ⟨g2, o2 + k * 5 + 3, none⟩ = some (.int .i64 kk) := hc2'.at_ 3 rfl
       have r4 : wr.cell? ⟨g2, o2 + k * 5 + 4, none⟩ = some (.int .i64 rr) := hc2'.at_ 4 rfl
       have hbg2 : bb < wr.heap.size := by obtain ⟨_, _, h, _⟩ := hP; exact h.lt.2
       have hP3 := hP.below ((Below.here wr).alloc (Nat.le_refl _) (.cells [.int .i64 fi, .string fn, .string ft, .int .i64 kk, .int .i64 rr].toArray 44))
       have hY3 := Box.new wr 44 [.int .i64 fi, .string fn, .string ft, .int .i64 kk, .int .i64 rr]
       have hYt := hY.alloc (.cells [.int .i64 fi, .string fn, .string ft, .int .i64 kk, .int .i64 rr].toArray 44)
       have hbr3 := hbr.alloc (.cells [.int .i64 fi, .string fn, .string ft, .int .i64 kk, .int .i64 rr].toArray 44)
       have hbk3 := hbk.alloc (.cells [.int .i64 fi, .string fn, .string ft, .int .i64 kk, .int .i64 rr].toArray 44)
       have hYY : Y < wr.heap.size := hY.lt
       clear hc2 hc2' hre2 hf hP hS2 hgw2 hbl2 hnf hY hbr hbk hfm hkne hrne
       go_upto_region 21 with fail
       clear r0 r1 r2 r3 r4 hgl2
       generalize wr.heap.size = Y3 at hY3 hbg2 hYY ⊢
       generalize (World.alloc wr _) = w3 at hP3 hY3 hYt hbr3 hbk3 ⊢
       have d3 : w3.cell? ⟨Y3, 3, none⟩ = some (.int .i64 kk) := hY3.cell 3
       have dl := hY3.lt
       by_cases hk4 : kk < 4
       ·--[K1
        have hk4' : (kk : Int) < 4 := by omega
        have hkk0 : (0 : Int) ≤ (kk : Int) := by omega
        have kc : w3.cell? ⟨0, kk, none⟩ = some (.string kn) := (hbk3.cell kk).trans (hkc hk4)
        have kl := hbk3.lt
        clear hkc hkt hk4
        go_upto_region 23 with fail
        clear d3 dl kc kl hk4' hkk0
        have hS : (fun W' => World.cell? W' ⟨Y3, 0, none⟩ = some (.int .i64 fi) ∧ World.cell? W' ⟨Y3, 1, none⟩ = some (.string fn) ∧ World.cell? W' ⟨Y3, 4, none⟩ = some (.int .i64 rr) ∧ World.cell? W' ⟨1, rr, none⟩ = some (.string rn)) w3.drew := ⟨hY3.drew.cell 0, hY3.drew.cell 1, hY3.drew.cell 4, (hbr3.drew.cell rr).trans hrc.1⟩
        have hPd := hP3.below (below_drew (Below.here w3))
        have hYd := hY3.drew
        have hYtd := hYt.drew
        have hbrd := hbr3.drew
        refine lateP_start (fun W' => World.cell? W' ⟨Y3, 0, none⟩ = some (.int .i64 fi) ∧ World.cell? W' ⟨Y3, 1, none⟩ = some (.string fn) ∧ World.cell? W' ⟨Y3, 4, none⟩ = some (.int .i64 rr) ∧ World.cell? W' ⟨1, rr, none⟩ = some (.string rn)) (fun i => i != 18) (by kernel_rfl) ?_
        clear hP3 hY3 hYt hbr3 hbk3
        generalize w3.drew = Wd at hPd hYd hYtd hbrd hS ⊢
        have hr3' : (rr : Int) < 4 := by omega
        have hr0' : (0 : Int) ≤ (rr : Int) := by omega
        refine ppP 0 ?_
        try simp only [pu]
        refine tkP 1 hS ?_
        try simp only [pu]
        refine ppP 5 ?_
        try simp only [pu]
        refine tkP 6 hS ?_
        try simp only [pu]
        refine ppP 7 ?_
        try simp only [pu]
        refine tkP 8 hS ?_
        try simp only [pu]
        refine ppP 11 ?_
        try simp only [pu]
        refine ppP 14 ?_
        try simp only [pu]
        refine tkP 15 hS ?_
        try simp only [pu]
        refine lateP_one (i := 2) rfl (by kernel_rfl) (fun K hK => ?_)
        go_simp
        refine (itoa_any fi (by omega) (by omega) Wd (HN.out.below hPd.old)).mono ?_
        rintro e w5 ⟨rfl, hb5⟩
        have hP5 := hPd.below hb5
        have hY5 := hYtd.below hb5 hYtd.lt
        have hZ5 := hYd.below hb5 hYd.lt
        replace hS : (fun W' => World.cell? W' ⟨Y3, 0, none⟩ = some (.int .i64 fi) ∧ World.cell? W' ⟨Y3, 1, none⟩ = some (.string fn) ∧ World.cell? W' ⟨Y3, 4, none⟩ = some (.int .i64 rr) ∧ World.cell? W' ⟨1, rr, none⟩ = some (.string rn)) w5 := ⟨hZ5.cell 0, hZ5.cell 1, hZ5.cell 4, ((hbrd.below hb5 hbrd.lt).cell rr).trans hrc.1⟩
        clear hPd hYd hYtd hb5 hbrd hZ5
        refine hK.out _ _ (fun _ _ => hS) ?_
        clear hK K
        try simp only [pu]
        have hsv := itoaS_len (n := fi) (by omega) (by omega)
        have hw6 := Lib.hid (hP5.write _ htl3 (by have := Hwl.out; rw [← Hwh.out] at this; omega))
        have Hrc := Lib.hid hrc
        generalize itoaS fi = sv at hsv hw6 ⊢
        have g1 : ¬ 9223372036854775807 < 2 + sv.size := by omega
        have g2 : ¬ 9223372036854775807 < 2 + sv.size + 1 := by omega
        have g3 : ¬ 9223372036854775807 < 2 + sv.size + 1 + rn.size := by omega
        have g4 : ¬ 9223372036854775807 < 2 + sv.size + 1 + rn.size + 1 := by omega
        have g5 : ¬ 9223372036854775807 < 2 + sv.size + 1 + rn.size + 1 + kn.size := by omega
        have g6 : ¬ 9223372036854775807 < 2 + sv.size + 1 + rn.size + 1 + kn.size + 1 := by omega
        have g7 : ¬ 9223372036854775807 < 2 + sv.size + 1 + rn.size + 1 + kn.size + 1 + fn.size := by omega
        have g8 : ¬ 9223372036854775807 < 2 + sv.size + 1 + rn.size + 1 + kn.size + 1 + fn.size + 2 := by omega
        clear htl3 hsv hrc
        refine ppP 3 ?_
        try simp only [pu]
        refine ppP 4 ?_
        try simp only [pu]
        refine ppP 9 ?_
        try simp only [pu]
        refine ppP 10 ?_
        try simp only [pu]
        refine ppP 12 ?_
        try simp only [pu]
        refine ppP 13 ?_
        try simp only [pu]
        refine ppP 16 ?_
        try simp only [pu]
        refine ppP 17 ?_
        try simp only [pu]
        refine lateP_one (i := 18) rfl (by kernel_rfl) (fun K hK => ?_)
        go_simp
        refine hw6.out.mono ?_
        rintro e w6 ⟨rfl, hP6, ho6, -⟩
        refine hK.out _ _ (fun h => absurd h (by decide)) ?_
        clear hK K
        try simp only [pu]
        refine lateP_done (by kernel_rfl) ?_ _
        have hY6 := ho6 _ _ _ (by decide) (show Y ≠ bb by omega) hY5
        clear hS g1 g2 g3 g4 g5 g6 g7 g8 hP5 hY5 ho6
        go_wp2_with fail
        go_roundw
        case rel => exact ⟨k + 1, by simp, by omega, hP6, hY6⟩
        case measure => go_light; simp [intOf]; omega
       ·--[K2
        have hk4' : ¬ (kk : Int) < 4 := by omega
        have hft := hkt hk4
        subst hft
        clear hkc hkt hk4
        go_upto_region 23 with fail
        clear d3 dl hk4'
        have hS : (fun W' => World.cell? W' ⟨Y3, 0, none⟩ = some (.int .i64 fi) ∧ World.cell? W' ⟨Y3, 1, none⟩ = some (.string fn) ∧ World.cell? W' ⟨Y3, 4, none⟩ = some (.int .i64 rr) ∧ World.cell? W' ⟨1, rr, none⟩ = some (.string rn)) w3.drew := ⟨hY3.drew.cell 0, hY3.drew.cell 1, hY3.drew.cell 4, (hbr3.drew.cell rr).trans hrc.1⟩
        have hPd := hP3.below (below_drew (Below.here w3))
        have hYd := hY3.drew
        have hYtd := hYt.drew
        have hbrd := hbr3.drew
        refine lateP_start (fun W' => World.cell? W' ⟨Y3, 0, none⟩ = some (.int .i64 fi) ∧ World.cell? W' ⟨Y3, 1, none⟩ = some (.string fn) ∧ World.cell? W' ⟨Y3, 4, none⟩ = some (.int .i64 rr) ∧ World.cell? W' ⟨1, rr, none⟩ = some (.string rn)) (fun i => i != 18) (by kernel_rfl) ?_
        clear hP3 hY3 hYt hbr3 hbk3
        generalize w3.drew = Wd at hPd hYd hYtd hbrd hS ⊢
        have hr3' : (rr : Int) < 4 := by omega
        have hr0' : (0 : Int) ≤ (rr : Int) := by omega
        refine ppP 0 ?_
        try simp only [pu]
        refine tkP 1 hS ?_
        try simp only [pu]
        refine ppP 5 ?_
        try simp only [pu]
        refine tkP 6 hS ?_
        try simp only [pu]
        refine ppP 7 ?_
        try simp only [pu]
        refine tkP 8 hS ?_
        try simp only [pu]
        refine ppP 11 ?_
        try simp only [pu]
        refine ppP 14 ?_
        try simp only [pu]
        refine tkP 15 hS ?_
        try simp only [pu]
        refine lateP_one (i := 2) rfl (by kernel_rfl) (fun K hK => ?_)
        go_simp
        refine (itoa_any fi (by omega) (by omega) Wd (HN.out.below hPd.old)).mono ?_
        rintro e w5 ⟨rfl, hb5⟩
        have hP5 := hPd.below hb5
        have hY5 := hYtd.below hb5 hYtd.lt
        have hZ5 := hYd.below hb5 hYd.lt
        replace hS : (fun W' => World.cell? W' ⟨Y3, 0, none⟩ = some (.int .i64 fi) ∧ World.cell? W' ⟨Y3, 1, none⟩ = some (.string fn) ∧ World.cell? W' ⟨Y3, 4, none⟩ = some (.int .i64 rr) ∧ World.cell? W' ⟨1, rr, none⟩ = some (.string rn)) w5 := ⟨hZ5.cell 0, hZ5.cell 1, hZ5.cell 4, ((hbrd.below hb5 hbrd.lt).cell rr).trans hrc.1⟩
        clear hPd hYd hYtd hb5 hbrd hZ5
        refine hK.out _ _ (fun _ _ => hS) ?_
        clear hK K
        try simp only [pu]
        have hsv := itoaS_len (n := fi) (by omega) (by omega)
        have hw6 := Lib.hid (hP5.write _ htl3 (by have := Hwl.out; rw [← Hwh.out] at this; omega))
        have Hrc := Lib.hid hrc
        generalize itoaS fi = sv at hsv hw6 ⊢
        have g1 : ¬ 9223372036854775807 < 2 + sv.size := by omega
        have g2 : ¬ 9223372036854775807 < 2 + sv.size + 1 := by omega
        have g3 : ¬ 9223372036854775807 < 2 + sv.size + 1 + rn.size := by omega
        have g4 : ¬ 9223372036854775807 < 2 + sv.size + 1 + rn.size + 1 := by omega
        have g5 : ¬ 9223372036854775807 < 2 + sv.size + 1 + rn.size + 1 + kn.size := by omega
        have g6 : ¬ 9223372036854775807 < 2 + sv.size + 1 + rn.size + 1 + kn.size + 1 := by omega
        have g7 : ¬ 9223372036854775807 < 2 + sv.size + 1 + rn.size + 1 + kn.size + 1 + fn.size := by omega
        have g8 : ¬ 9223372036854775807 < 2 + sv.size + 1 + rn.size + 1 + kn.size + 1 + fn.size + 2 := by omega
        clear htl3 hsv hrc
        refine ppP 3 ?_
        try simp only [pu]
        refine ppP 4 ?_
        try simp only [pu]
        refine ppP 9 ?_
        try simp only [pu]
        refine ppP 10 ?_
        try simp only [pu]
        refine ppP 12 ?_
        try simp only [pu]
        refine ppP 13 ?_
        try simp only [pu]
        refine ppP 16 ?_
        try simp only [pu]
        refine ppP 17 ?_
        try simp only [pu]
        refine lateP_one (i := 18) rfl (by kernel_rfl) (fun K hK => ?_)
        go_simp
        refine hw6.out.mono ?_
        rintro e w6 ⟨rfl, hP6, ho6, -⟩
        refine hK.out _ _ (fun h => absurd h (by decide)) ?_
        clear hK K
        try simp only [pu]
        refine lateP_done (by kernel_rfl) ?_ _
        have hY6 := ho6 _ _ _ (by decide) (show Y ≠ bb by omega) hY5
        clear hS g1 g2 g3 g4 g5 g6 g7 g8 hP5 hY5 ho6
        go_wp2_with fail
        go_roundw
        case rel => exact ⟨k + 1, by simp, by omega, hP6, hY6⟩
        case measure => go_light; simp [intOf]; omega
      ·--[FEND
       obtain rfl : k = t.fields.length := by omega
       have Hd : Hid ((t.fields.drop t.fields.length).flatMap printField ++ (printGone t.gone ++ ([125, 10] ++ R)) = printGone t.gone ++ ([125, 10] ++ R)) := by show _ = _; simp
       rw [Hd.out] at hP
       have y3' : wr.cell? ⟨Y, 3, none⟩ = some (.slice A2 t.gone.length k2) := hY.cell 3
       have yl' := hY.lt
       have hR2 := HR.out
       by_cases hg1 : 0 < t.gone.length
       ·--[GONE
        have hg1' : (0 : Int) < (t.gone.length : Int) := by omega
        have Hpg : Hid (printGone t.gone ++ ([125, 10] ++ R) = bytes ⟨#[32, 32, 103, 111, 110, 101]⟩ ++ (t.gone.flatMap (fun n => 32 :: Lib.itoa n) ++ ([59, 10] ++ ([125, 10] ++ R)))) := by
         show _ = _
         unfold printGone
         rw [if_neg (by omega)]
         simp [bytes]
        have hw3 := Lib.hid (hP.write _ Hpg.out (by have := Hwl.out; rw [← Hwh.out] at this; omega))
        clear hP hk hkl hg1 hR2
        go_wp2_with fail
        refine hw3.out.mono ?_
        rintro e w3 ⟨rfl, hP3, ho3, -⟩
        have hY3 := ho3 _ _ _ (by decide) (show Y ≠ bb by omega) hY
        have y3'' : w3.cell? ⟨Y, 3, none⟩ = some (.slice A2 t.gone.length k2) := hY3.cell 3
        have yl'' := hY3.lt
        clear y3' yl' hY hY3 ho3
        go_wp2_with fail
        clear y3'' yl''
        go_loopw [102] (fun i wr => ∃ k : Nat, i = .int .i64 k ∧ k ≤ t.gone.length ∧ PSt w bb whole ((t.gone.drop k).flatMap (fun n => 32 :: Lib.itoa n) ++ ([59, 10] ++ ([125, 10] ++ R))) wr) (fun i _ => t.gone.length - (intOf i).toNat)
        case atStart => exact ⟨0, rfl, Nat.zero_le _, hP3⟩
        case round =>
         clear hP3
         obtain ⟨k, rfl, hk, hP⟩ := hrel
         by_cases hkl : k < t.gone.length
         ·--[NUM
          have hkl' : (k : Int) < (t.gone.length : Int) := by omega
          have hkz : (0 : Int) ≤ (k : Int) := by omega
          have e2 : IntKind.i64.wrap ((k : Int) + 1) = (k : Int) + 1 := IntWalk.i64_in _ (by omega)
          obtain ⟨g2, o2, es2, rfl, hS2, hgw2, -, hre2, hc2⟩ := Hrg.out.at_ hkl
          have hbl2 : Below w.heap.size w wr := hP.old
          have hc2' := hc2.keep (Keep.of_below hbl2) hS2
          have hgl2 : g2 < wr.heap.size := Nat.lt_of_lt_of_le hgw2 hbl2.size
          obtain ⟨x, hx⟩ : ∃ x, x = t.gone[k] := ⟨_, rfl⟩
          rw [← hx] at hre2
          have he2 : es2 = [.int .i64 x] := hre2
          subst he2
          have r0 : wr.cell? ⟨g2, o2 + k, none⟩ = some (.int .i64 x) := by have := hc2'.at_ 0 rfl; simpa using this
          have htl2 : Hid ((t.gone.drop k).flatMap (fun n => 32 :: Lib.itoa n) ++ ([59, 10] ++ ([125, 10] ++ R)) = bytes (⟨#[32]⟩ ++ itoaS x) ++ ((t.gone.drop (k + 1)).flatMap (fun n => 32 :: Lib.itoa n) ++ ([59, 10] ++ ([125, 10] ++ R)))) := by
           show _ = _
           rw [List.drop_eq_getElem_cons hkl, List.flatMap_cons, ← hx]
           simp [bytes, itoaS]
          have hxg := Hmsg.out.2.2.2.1 k hkl
          rw [← hx] at hxg
          have hx1 : 1 ≤ x := hxg.2.1
          have hx2 : x ≤ 30 := hxg.2.2.1
          have hit := Lib.hid (itoa_any x (by omega) (by omega) wr (HN.out.below hbl2))
          have hsv := itoaS_len (n := x) (by omega) (by omega)
          clear hc2 hc2' hre2 hx hS2 hgw2 hbl2 hxg
          go_wp2_with fail
          refine hit.out.mono ?_
          rintro e w4 ⟨rfl, hb4⟩
          have hP4 := hP.below hb4
          have hw6 := Lib.hid (hP4.write _ htl2.out (by have := Hwl.out; rw [← Hwh.out] at this; omega))
          clear r0 hgl2 hP hb4
          go_wp2_with fail
          refine hw6.out.mono ?_
          rintro e w6 ⟨rfl, hP6, -, -⟩
          go_wp2_with fail
          go_roundw
          case rel => exact ⟨k + 1, by simp, by omega, hP6⟩
          case measure => go_light; simp [intOf]; omega
         ·--[NEND
          obtain rfl : k = t.gone.length := by omega
          have Hd2 : Hid ((t.gone.drop t.gone.length).flatMap (fun n => 32 :: Lib.itoa n) ++ ([59, 10] ++ ([125, 10] ++ R)) = bytes ⟨#[59, 10]⟩ ++ ([125, 10] ++ R)) := by show _ = _; simp [bytes]
          have hw7 := Lib.hid (hP.write _ Hd2.out (by have := Hwl.out; rw [← Hwh.out] at this; omega))
          clear hP hk hkl
          go_wp2_with fail
          refine hw7.out.mono ?_
          rintro e w7 ⟨rfl, hP7, -, -⟩
          have Hde : Hid ([125, 10] ++ R = bytes ⟨#[125, 10]⟩ ++ (b.drop (n + 1)).flatMap printType) := by show _ = _; rw [HR.out]
          have hw8 := Lib.hid (hP7.write _ Hde.out (by have := Hwl.out; rw [← Hwh.out] at this; omega))
          clear hP7
          go_wp2_with fail
          refine hw8.out.mono ?_
          rintro e w8 ⟨rfl, hP8, -, -⟩
          go_wp2_with fail
          go_roundw
          case rel => exact ⟨n + 1, by simp, by omega, hP8⟩
          case measure => go_light; simp [intOf]; omega
       ·--[NONE
        have hg0 : t.gone.length = 0 := by omega
        have hg1' : ¬ (0 : Int) < (t.gone.length : Int) := by omega
        have Hpg : Hid (printGone t.gone ++ ([125, 10] ++ R) = [125, 10] ++ R) := by
         show _ = _
         unfold printGone
         rw [if_pos hg0]; rfl
        rw [Hpg.out] at hP
        clear hk hkl hg1 hR2 hg0 hY
        have Hde : Hid ([125, 10] ++ R = bytes ⟨#[125, 10]⟩ ++ (b.drop (n + 1)).flatMap printType) := by show _ = _; rw [HR.out]
        have hw8 := Lib.hid (hP.write _ Hde.out (by have := Hwl.out; rw [← Hwh.out] at this; omega))
        clear hP
        go_wp2_with fail
        refine hw8.out.mono ?_
        rintro e w8 ⟨rfl, hP8, -, -⟩
        go_wp2_with fail
        go_roundw
        case rel => exact ⟨n + 1, by simp, by omega, hP8⟩
        case measure => go_light; simp [intOf]; omega
   ·--[END
    obtain rfl : n = b.length := by omega
    have Hd : Hid ((b.drop b.length).flatMap printType = []) := by show _ = _; simp
    obtain ⟨lz, hl1, hl2, hl3⟩ := hP
    rw [Hd.out, List.append_nil] at hl1
    have hst := Lib.hid (builder_string _ bb lz wr hl2 hl3.size)
    have Hl3 := Lib.hid hl3
    have Hlz := Lib.hid hl1
    clear hl1 hl2 hl3 hn hlt
    go_wp2_with fail
    refine hst.out.mono ?_
    rintro e w5 ⟨rfl, hb5⟩
    go_wp2_with fail
    go_ret2
    exact ⟨by rw [He.out, ← Hwh.out, ← Hlz.out]; rfl, Hl3.out.trans hb5⟩
 ·--[BAD
  have He : Hid (p = ([], ge)) := by show _ = _; rw [Hp.out, printF, ← Hge.out, if_pos hg0]
  clear hZ1
  go_wp2_with fail
  go_ret2
  exact ⟨by rw [He.out]; rfl, hG1⟩
end Go.Proofs.YtfobdbhmfohfnaaGreatDoor
