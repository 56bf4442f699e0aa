/- The walk of patternbookref.PrintBook. -/
import Derived.Test.YtfobdbhmfohfnaaGreatDoorRefGood
import Derived.Test.YtfobdbhmfohfnaaGreatDoorRefDecimal
import Derived.Test.YtfobdbhmfohfnaaGreatDoorPrint
import Derived.Test.YtfobdbhmfohfnaaGreatDoorLates
import Derived.Deep.CutBlock
set_option maxRecDepth 100000
set_option maxHeartbeats 8000000
namespace Go.Proofs.YtfobdbhmfohfnaaGreatDoor
open Go.RowKit
section
variable {P : Program} {md : Region.Mode} {ops : Array Oper} {Q : Exit → Act → World → Prop} {lb : Nat → Bool} {S : World → Prop}
theorem lateP_three {i j k : Nat} {oi oj ok : Oper} {fuel : Nat} {listed : Array Bool} {a : Act} {w : World} (hi : ops[i]? = some oi) (hj : ops[j]? = some oj) (hk : ops[k]? = some ok) (hr : Region.ready md ops listed = [i, j, k])
  (h1 : ∀ K : Act → World → Prop, Shut (∀ a' w', (lb i = true → S w → S w') → anyP P md ops Q lb S fuel (listed.setIfInBounds i true) a' w' → K a' w') → if Region.wanted oi (yielded ops a.tmps) = true then Oper.wp P oi a w K Q else K (a.put oi.dst undef) w)
  (h2 : ∀ K : Act → World → Prop, Shut (∀ a' w', (lb j = true → S w → S w') → anyP P md ops Q lb S fuel (listed.setIfInBounds j true) a' w' → K a' w') → if Region.wanted oj (yielded ops a.tmps) = true then Oper.wp P oj a w K Q else K (a.put oj.dst undef) w)
  (h3 : ∀ K : Act → World → Prop, Shut (∀ a' w', (lb k = true → S w → S w') → anyP P md ops Q lb S fuel (listed.setIfInBounds k true) a' w' → K a' w') → if Region.wanted ok (yielded ops a.tmps) = true then Oper.wp P ok a w K Q else K (a.put ok.dst undef) w) :
  anyP P md ops Q lb S (fuel + 1) listed a w := by
 refine ⟨fun h0 => (by rw [hr] at h0; cases h0), ?_⟩
 rw [hr]
 intro q hq
 rcases List.mem_cons.1 hq with rfl | hq
 ·exact wpOp_step hi (fun K' hK => h1 K' (fun a' w' hS hW => hK a' w' ⟨hS, hW⟩))
 ·rcases List.mem_cons.1 hq with rfl | hq
  ·exact wpOp_step hj (fun K' hK => h2 K' (fun a' w' hS hW => hK a' w' ⟨hS, hW⟩))
  ·have : q = k := by simpa using hq
   subst this
   exact wpOp_step hk (fun K' hK => h3 K' (fun a' w' hS hW => hK a' w' ⟨hS, hW⟩))
theorem anyP_more {T : World → Prop} (hl : ∀ i, lb i = true) : ∀ (fuel : Nat) (listed : Array Bool) (a : Act) (w : World), S w → T w → anyP P md ops Q lb (fun w => S w ∧ T w) fuel listed a w → anyP P md ops Q lb S fuel listed a w
 | 0, _, _, _, _, _, h => h
 | fuel + 1, listed, a, w, hS, hT, h => ⟨h.1, fun i hi => wpOp_mono (fun a' w' hh => ⟨fun _ _ => (hh.1 (hl i) ⟨hS, hT⟩).1, anyP_more hl fuel _ a' w' (hh.1 (hl i) ⟨hS, hT⟩).1 (hh.1 (hl i) ⟨hS, hT⟩).2 hh.2⟩) (h.2 i hi)⟩
end
def hdrS (t : TypeD) : ByteArray := if t.enum then ⟨#[101, 110, 117, 109, 32]⟩ ++ t.name ++ ⟨#[32, 123, 10]⟩ else ⟨#[109, 101, 115, 115, 97, 103, 101, 32]⟩ ++ t.name ++ ⟨#[32, 123, 10]⟩
theorem tail_type {b : BookD} (hg : goodF b = 0) {t : TypeD} (ht : t ∈ b) : printType t = bytes (hdrS t) ++ (t.items.flatMap printItem ++ (t.fields.flatMap printField ++ (printGone t.gone ++ [125, 10]))) := by
 unfold hdrS
 cases he : t.enum with
 | true =>
  have h := good_enum hg ht he
  have h1 := List.eq_nil_of_length_eq_zero h.2.2.2.1
  have h2 := List.eq_nil_of_length_eq_zero h.2.2.2.2
  simp [printType, he, bytes, wEnum, h1, h2, printGone]
 | false =>
  have h := (good_msg hg ht he).2.1
  have h1 := List.eq_nil_of_length_eq_zero h
  simp [printType, he, bytes, wMessage, h1]
def rowS (r : Int) : ByteArray := ⟨#[32]⟩ ++ (rulesL[r.toNat]?).getD ⟨#[]⟩ ++ ⟨#[32]⟩
theorem tail_fieldR (f : FieldD) (R : List UInt8) : printField f ++ R = bytes (⟨#[32, 32]⟩ ++ itoaB f.id ++ rowS f.rule ++ kindName f ++ ⟨#[32]⟩ ++ f.name ++ ⟨#[59, 10]⟩) ++ R := by
 simp [printField, itoaB, bytes, rowS, ruleName]
def r1C : List Value := [.string ⟨#[32]⟩, .string ⟨#[32, 111, 110, 101, 32]⟩, .string ⟨#[32, 109, 97, 121, 98, 101, 32]⟩, .string ⟨#[32, 109, 97, 110, 121, 32]⟩]
def r2C (ft : ByteArray) : List Value := [.string ⟨#[]⟩, .string ⟨#[98, 111, 111, 108]⟩, .string ⟨#[105, 110, 116]⟩, .string ⟨#[116, 101, 120, 116]⟩, .string ft, .string ft]
theorem r1_at {rr : Nat} (h1 : 1 ≤ rr) (h3 : rr ≤ 3) : r1C[rr]? = some (.string (rowS rr)) ∧ (rowS rr).size ≤ 7 := by
 have : rr = 1 ∨ rr = 2 ∨ rr = 3 := by omega
 rcases this with rfl | rfl | rfl
 ·exact ⟨by rfl, by decide⟩
 ·exact ⟨by rfl, by decide⟩
 ·exact ⟨by rfl, by decide⟩
theorem r2_at {fi : Int} {fn ft : ByteArray} {kk : Nat} {rule : Int} (h1 : 1 ≤ kk) (h5 : kk ≤ 5) : (r2C ft)[kk]? = some (.string (kindName ⟨fi, fn, ft, kk, rule⟩)) := by
 have : kk = 1 ∨ kk = 2 ∨ kk = 3 ∨ kk = 4 ∨ kk = 5 := by omega
 rcases this with rfl | rfl | rfl | rfl | rfl <;> rfl
def Left (whole : List UInt8) (acc : ByteArray) (tail : List UInt8) : Prop := bytes acc ++ tail = whole
theorem Left.add {whole tail : List UInt8} {acc s : ByteArray} (h : Left whole acc (bytes s ++ tail)) : Left whole (acc ++ s) tail := by
 unfold Left at h ⊢
 rw [bytes_add, List.append_assoc]; exact h
theorem Left.size {whole tail : List UInt8} {acc : ByteArray} (h : Left whole acc tail) : acc.size ≤ whole.length := by
 rw [← h, List.length_append]
 have : acc.size = (bytes acc).length := by simp [bytes]
 omega
def goneT (l : List Int) (R : List UInt8) (j : Nat) : List UInt8 := if l.length = 0 then R else (if j = 0 then [32, 32, 103, 111, 110, 101] else []) ++ ((l.drop j).flatMap (fun n => 32 :: Lib.itoa n) ++ ([59, 10] ++ R))
theorem gone_start (l : List Int) (R : List UInt8) : printGone l ++ R = goneT l R 0 := by
 unfold printGone goneT
 split
 ·simp
 ·simp
theorem gone_first {l : List Int} (h : 0 < l.length) (R : List UInt8) : goneT l R 0 = bytes ⟨#[32, 32, 103, 111, 110, 101]⟩ ++ (bytes (⟨#[32]⟩ ++ itoaB l[0]) ++ goneT l R 1) := by
 unfold goneT
 rw [if_neg (by omega), if_pos rfl, if_neg (by omega), if_neg (by omega), List.drop_zero]
 conv => lhs; rw [show l = l[0] :: l.drop 1 from by cases l with | nil => simp at h | cons x l => rfl]
 simp [bytes, itoaB]
theorem gone_next {l : List Int} {j : Nat} (h : j < l.length) (hj : 0 < j) (R : List UInt8) : goneT l R j = bytes (⟨#[32]⟩ ++ itoaB l[j]) ++ goneT l R (j + 1) := by
 have h0 : ¬ l.length = 0 := by omega
 have h1 : ¬ j = 0 := by omega
 have h2 : ¬ j + 1 = 0 := by omega
 unfold goneT
 rw [if_neg h0, if_neg h0, if_neg h1, if_neg h2, List.drop_eq_getElem_cons h, List.flatMap_cons]
 simp [bytes, itoaB]
theorem gone_end {l : List Int} (h : 0 < l.length) (R : List UInt8) : goneT l R l.length = bytes ⟨#[59, 10]⟩ ++ R := by
 unfold goneT
 rw [if_neg (by omega), if_neg (by omega), List.drop_length]
 simp [bytes]
theorem refPrint_any (S : Nat → Prop) (vb : Value) (b : BookD) (w : World) (hb0 : RSl 5 96 RType S w [vb] b) (hM : MaxL w) (hsz : BookOk b) (hsm : BookSmall b) :
  Calls Tryz.prog 29 #[.agg #[vb]] w (PrintEnd w (printF b)) := by
 obtain ⟨p, hp⟩ : ∃ p, p = printF b := ⟨_, rfl⟩
 rw [← hp]
 obtain ⟨A, cap, rfl, -, -⟩ := hb0.form
 have HB := Lib.hid hb0
 obtain ⟨x1, x2⟩ := boxes1 w [.slice A b.length cap] 24
 have hgd := Lib.hid (goodR_any S _ b _ ((RSl.fair RType.fair).below hb0 x2) (hM.below x2) hsz hsm)
 obtain ⟨ge, hge⟩ : ∃ ge, ge = goodF b := ⟨_, rfl⟩
 rw [← hge] at hgd
 have Hge := Lib.hid hge
 have Hp := Lib.hid hp
 have z0 := x1.cell 0
 have l0 := x1.lt
 clear hb0 hM hp hge hsz hsm
 go_enter Tryz.func29, Tryz.ntmps29
 go_wp2_with fail
 refine hgd.out.mono ?_
 rintro e w1 ⟨rfl, hb1⟩
 have y1 := x1.below hb1 x1.lt
 have hw1 := below_via x2 hb1 x2.size
 clear z0 l0 x1 x2 hb1 hgd
 by_cases hg0 : ge = 0
 ·--[GOOD
  have Hg : Hid (goodF b = 0) := by show _ = _; rw [← Hge.out]; exact hg0
  have He : Hid (p = (b.flatMap printType, 0)) := by show _ = _; rw [Hp.out]; exact printF_good Hg.out
  have Hwl := Lib.hid (print_len Hg.out)
  obtain ⟨whole, hwh⟩ : ∃ x, x = b.flatMap printType := ⟨_, rfl⟩
  rw [← hwh] at Hwl
  have Hwh := Lib.hid hwh
  subst hg0
  have hlb' : b.length ≤ 4 := (good_parts Hg.out).1
  have z0 := y1.cell 0
  have l0 := y1.lt
  clear hwh Hge Hp
  go_wp2_with fail
  clear z0 l0 y1
  go_loopw [5, 22] (fun c5 c22 wr => ∃ (n : Nat) (acc : ByteArray), c5 = .string acc ∧ c22 = .int .i64 n ∧ n ≤ b.length ∧ Left whole acc ((b.drop n).flatMap printType) ∧ Below w.heap.size w wr) (fun _ c22 _ => b.length - (intOf c22).toNat)
  case atStart => exact ⟨0, ⟨#[]⟩, rfl, rfl, Nat.zero_le _, (by rw [List.drop_zero, ← Hwh.out]; rfl), hw1⟩
  case round =>
   clear hw1
   obtain ⟨n, acc, rfl, rfl, hn, hL, hw⟩ := hrel
   by_cases hlt : n < b.length
   ·--[RND
    obtain ⟨g, o, es, rfl, hSg, hgw, hes, hre, hc0⟩ := HB.out.at_ hlt
    have hc := hc0.keep (Keep.of_below hw) hSg
    have hgl : g < wr.heap.size := Nat.lt_of_lt_of_le hgw hw.size
    have htm0 := List.getElem_mem hlt
    have htl : (b.drop n).flatMap printType = printType b[n] ++ (b.drop (n + 1)).flatMap printType := by
     rw [List.drop_eq_getElem_cons hlt, List.flatMap_cons]
    obtain ⟨t, ht⟩ : ∃ t, t = b[n] := ⟨_, rfl⟩
    rw [← ht] at hre htm0 htl
    obtain ⟨R, hR⟩ : ∃ R, R = (b.drop (n + 1)).flatMap printType := ⟨_, rfl⟩
    rw [htl, ← hR, tail_type Hg.out htm0] at hL
    simp only [List.append_assoc] at hL
    have HR := Lib.hid hR
    obtain ⟨A1, k1, A2, k2, A3, k3, rfl, hrf, hrg, hri⟩ := hre.parts
    have q0 : wr.cell? ⟨g, o + n * 5, none⟩ = some (.string t.name) := hc.at_ 0 rfl
    have q1 : wr.cell? ⟨g, o + n * 5 + 1, none⟩ = some (.bool t.enum) := hc.at_ 1 rfl
    have q2 : wr.cell? ⟨g, o + n * 5 + 2, none⟩ = some (.slice A1 t.fields.length k1) := hc.at_ 2 rfl
    have q3 : wr.cell? ⟨g, o + n * 5 + 3, none⟩ = some (.slice A2 t.gone.length k2) := hc.at_ 3 rfl
    have q4 : wr.cell? ⟨g, o + n * 5 + 4, none⟩ = some (.slice A3 t.items.length k3) := hc.at_ 4 rfl
    have Hrf := Lib.hid hrf
    have Hrg := Lib.hid hrg
    have Hri := Lib.hid hri
    have Htm := Lib.hid htm0
    have hlens : t.items.length ≤ 6 ∧ t.fields.length ≤ 5 ∧ t.gone.length ≤ 30 := by
     cases he : t.enum with
     | true =>
      obtain ⟨_, _, a, b, c⟩ := good_enum Hg.out htm0 he
      omega
     | false =>
      obtain ⟨a, b, c, _⟩ := good_msg Hg.out htm0 he
      omega
    obtain ⟨hil, hfl, hgl3⟩ := hlens
    have hnm : t.name.size ≤ 12 := by
     obtain ⟨i, hi, e⟩ := List.getElem_of_mem htm0
     rw [← e]
     exact named_short ((good_parts Hg.out).2.1 i hi).1
    have has := hL.size
    have hw' := Hwl.out
    have hbig : acc.size ≤ 1600 := by omega
    have zY := Box.new wr 40 [.string t.name, .bool t.enum, .slice A1 t.fields.length k1, .slice A2 t.gone.length k2, .slice A3 t.items.length k3]
    have hw0 := hw.alloc hw.size (.cells [.string t.name, .bool t.enum, .slice A1 t.fields.length k1, .slice A2 t.gone.length k2, .slice A3 t.items.length k3].toArray 40)
    have e1 : IntKind.i64.wrap ((n : Int) + 1) = (n : Int) + 1 := IntWalk.i64_in _ (by omega)
    have hlt' : (n : Int) < (b.length : Int) := by omega
    clear hc0 hc hre hrf hrg hri htm0 ht hR htl hSg hes has hw' hw
    go_upto_if 27 with fail
    clear q0 q1 q2 q3 q4 hgl hgw
    generalize wr.heap.size = Y at zY ⊢
    generalize wr.alloc _ = W0 at zY hw0 ⊢
    have y0 : W0.cell? ⟨Y, 0, none⟩ = some (.string t.name) := zY.cell 0
    have yl := zY.lt
    go_cut [5] from 25 to 39 (fun s W1 => s = .string (acc ++ hdrS t) ∧ W1 = W0)
    case first =>
     cases he : t.enum with
     | true =>
      have Hh : Hid (hdrS t = ⟨#[101, 110, 117, 109, 32]⟩ ++ t.name ++ ⟨#[32, 123, 10]⟩) := by show _ = _; unfold hdrS; rw [if_pos he]
      have g1 : ¬ 9223372036854775807 < 5 + t.name.size := by omega
      have g2 : ¬ 9223372036854775807 < 5 + t.name.size + 3 := by omega
      have g3 : ¬ 9223372036854775807 < acc.size + (5 + t.name.size + 3) := by omega
      go_wp2_with fail
      go_meet
      case rel => exact ⟨by rw [Hh.out], rfl⟩
     | false =>
      have Hh : Hid (hdrS t = ⟨#[109, 101, 115, 115, 97, 103, 101, 32]⟩ ++ t.name ++ ⟨#[32, 123, 10]⟩) := by show _ = _; unfold hdrS; rw [if_neg (by rw [he]; decide)]
      have g1 : ¬ 9223372036854775807 < 8 + t.name.size := by omega
      have g2 : ¬ 9223372036854775807 < 8 + t.name.size + 3 := by omega
      have g3 : ¬ 9223372036854775807 < acc.size + (8 + t.name.size + 3) := by omega
      go_wp2_with fail
      go_meet
      case rel => exact ⟨by rw [Hh.out], rfl⟩
    case rest =>
     obtain ⟨rfl, rfl⟩ := hcut
     replace hL := hL.add
     clear y0 yl
     obtain ⟨R1, hR1⟩ : ∃ R1, R1 = t.fields.flatMap printField ++ (printGone t.gone ++ ([125, 10] ++ R)) := ⟨_, rfl⟩
     rw [← hR1] at hL
     have HR1 := Lib.hid hR1
     have y4 : wc.cell? ⟨Y, 4, none⟩ = some (.slice A3 t.items.length k3) := zY.cell 4
     have yl := zY.lt
     clear hR1
     go_wp2_with fail
     clear y4 yl
     go_loopw [5, 43] (fun c5 c43 wi => ∃ (j : Nat) (ac : ByteArray), c5 = .string ac ∧ c43 = .int .i64 j ∧ j ≤ t.items.length ∧ Left whole ac ((t.items.drop j).flatMap printItem ++ R1) ∧ Box wi Y 40 [.string t.name, .bool t.enum, .slice A1 t.fields.length k1, .slice A2 t.gone.length k2, .slice A3 t.items.length k3] ∧ Below w.heap.size w wi) (fun _ c43 _ => t.items.length - (intOf c43).toNat)
     case atStart => exact ⟨0, _, rfl, rfl, Nat.zero_le _, (by rw [List.drop_zero]; exact hL), zY, hw0⟩
     case round =>
      clear hL zY hw0
      obtain ⟨j, ac, rfl, rfl, hj, hL, zY, hw⟩ := hrel
      by_cases hjl : j < t.items.length
      ·--[ITEM
       obtain ⟨g3, o3, es3, rfl, hS3, hg3, -, hre3, hc3⟩ := Hri.out.at_ hjl
       have hc := hc3.keep (Keep.of_below hw) hS3
       have hgl : g3 < wr.heap.size := Nat.lt_of_lt_of_le hg3 hw.size
       have hxo : namedF t.items[j].name = true ∧ -1099511627776 ≤ t.items[j].n ∧ t.items[j].n ≤ 1099511627776 := by
        cases he : t.enum with
        | true =>
         have := (good_enum Hg.out Htm.out he).1 j hjl
         exact ⟨this.1, this.2.1, this.2.2.1⟩
        | false =>
         have := (good_msg Hg.out Htm.out he).2.1
         omega
       have htl : (t.items.drop j).flatMap printItem ++ R1 = printItem t.items[j] ++ ((t.items.drop (j + 1)).flatMap printItem ++ R1) := by rw [List.drop_eq_getElem_cons hjl, List.flatMap_cons, List.append_assoc]
       obtain ⟨x, hx⟩ : ∃ x, x = t.items[j] := ⟨_, rfl⟩
       rw [← hx] at hre3 hxo htl
       obtain rfl : es3 = itemCells x := hre3
       rw [htl, tail_item] at hL
       obtain ⟨xn, xi⟩ := x
       have q0 : wr.cell? ⟨g3, o3 + j * 2, none⟩ = some (.string xn) := hc.at_ 0 rfl
       have q1 : wr.cell? ⟨g3, o3 + j * 2 + 1, none⟩ = some (.int .i64 xi) := hc.at_ 1 rfl
       obtain ⟨hx1, hx2, hx3⟩ := hxo
       dsimp only at hx1 hx2 hx3 hL
       have hn12 := named_short hx1
       have hsv : (itoaB xi).size ≤ 14 := itoaS_len hx2 hx3
       have Hdec := Lib.hid (fun W => decimal_any xi W hx2 hx3)
       have hadd := hL.add
       have hacs := hL.size
       have hw' := Hwl.out
       have hbig2 : ac.size ≤ 1600 := by omega
       have e2 : itoaS xi = itoaB xi := rfl
       rw [e2] at hadd
       obtain ⟨sv, hsve⟩ : ∃ s, s = itoaB xi := ⟨_, rfl⟩
       rw [← hsve] at Hdec hsv hadd
       have Hadd := Lib.hid hadd
       have g1 : ¬ 9223372036854775807 < 2 + sv.size := by omega
       have g2 : ¬ 9223372036854775807 < 2 + sv.size + 1 := by omega
       have g3' : ¬ 9223372036854775807 < 2 + sv.size + 1 + xn.size := by omega
       have g4 : ¬ 9223372036854775807 < 2 + sv.size + 1 + xn.size + 2 := by omega
       have g5 : ¬ 9223372036854775807 < ac.size + (2 + sv.size + 1 + xn.size + 2) := by omega
       have ej : IntKind.i64.wrap ((j : Int) + 1) = (j : Int) + 1 := IntWalk.i64_in _ (by omega)
       have zX := Box.new wr 60 [.string xn, .int .i64 xi]
       replace zY := zY.alloc (.cells [.string xn, .int .i64 xi].toArray 60)
       replace hw := hw.alloc hw.size (.cells [.string xn, .int .i64 xi].toArray 60)
       clear hc hc3 hS3 hg3 htl hx hL hadd hacs hw' hsve hx1 hx2 hx3 hn12 hsv e2
       go_upto_region 14 with fail
       clear q0 q1 hgl
       generalize wr.heap.size = X at zX ⊢
       generalize wr.alloc _ = W3 at zX zY hw ⊢
       replace zX := zX.drew
       replace zY := zY.drew
       replace hw := below_drew hw
       have hS : (fun W' => World.cell? W' ⟨X, 0, none⟩ = some (.string xn) ∧ World.cell? W' ⟨X, 1, none⟩ = some (.int .i64 xi)) W3.drew := ⟨zX.cell 0, zX.cell 1⟩
       refine lateP_start (fun W' => World.cell? W' ⟨X, 0, none⟩ = some (.string xn) ∧ World.cell? W' ⟨X, 1, none⟩ = some (.int .i64 xi)) (fun _ => true) (by kernel_rfl) ?_
       generalize W3.drew = Wd at zX zY hw hS ⊢
       refine ppP 0 ?_
       try simp only [pu]
       refine ppP 1 ?_
       try simp only [pu]
       refine tkP 2 hS ?_
       try simp only [pu]
       refine ppP 6 ?_
       try simp only [pu]
       refine tkP 7 hS ?_
       try simp only [pu]
       refine lateP_one (i := 3) rfl (by kernel_rfl) (fun K hK => ?_)
       go_simp
       refine (Hdec.out _).mono ?_
       rintro e w5 ⟨rfl, rfl⟩
       refine hK.out _ _ (fun _ _ => hS) ?_
       clear hK K
       try simp only [pu]
       refine ppP 4 ?_
       try simp only [pu]
       refine ppP 5 ?_
       try simp only [pu]
       refine ppP 8 ?_
       try simp only [pu]
       refine ppP 9 ?_
       try simp only [pu]
       refine ppP 10 ?_
       try simp only [pu]
       refine ppP 11 ?_
       try simp only [pu]
       refine lateP_done (by kernel_rfl) ?_ _
       clear hS
       go_wp2_with fail
       go_roundw
       case rel => exact ⟨j + 1, _, rfl, by go_num, by go_light; omega, Hadd.out, zY, hw⟩
       case measure => go_light; simp [intOf]; omega
      ·--[REST
       obtain rfl : j = t.items.length := by omega
       rw [List.drop_length, List.flatMap_nil, List.nil_append, HR1.out] at hL
       clear HR1
       obtain ⟨R2, hR2⟩ : ∃ R2, R2 = printGone t.gone ++ ([125, 10] ++ R) := ⟨_, rfl⟩
       rw [← hR2] at hL
       have HR2 := Lib.hid hR2
       have y2 : wr.cell? ⟨Y, 2, none⟩ = some (.slice A1 t.fields.length k1) := zY.cell 2
       have yl := zY.lt
       clear hR2 hj hjl
       go_wp2_with fail
       clear y2 yl
       go_loopw [5, 62] (fun c5 c62 wi => ∃ (j : Nat) (ac : ByteArray), c5 = .string ac ∧ c62 = .int .i64 j ∧ j ≤ t.fields.length ∧ Left whole ac ((t.fields.drop j).flatMap printField ++ R2) ∧ Box wi Y 40 [.string t.name, .bool t.enum, .slice A1 t.fields.length k1, .slice A2 t.gone.length k2, .slice A3 t.items.length k3] ∧ Below w.heap.size w wi) (fun _ c62 _ => t.fields.length - (intOf c62).toNat)
       case atStart => exact ⟨0, _, rfl, rfl, Nat.zero_le _, (by rw [List.drop_zero]; exact hL), zY, hw⟩
       case round =>
        clear hL zY hw
        obtain ⟨j, ac, rfl, rfl, hj, hL, zY, hw⟩ := hrel
        by_cases hjl : j < t.fields.length
        ·--[FIELD
         obtain ⟨g3, o3, es3, rfl, hS3, hg3, -, hre3, hc3⟩ := Hrf.out.at_ hjl
         have hc := hc3.keep (Keep.of_below hw) hS3
         have hgl : g3 < wr.heap.size := Nat.lt_of_lt_of_le hg3 hw.size
         have hen : t.enum = false := by
          cases he : t.enum with
          | true =>
           have := (good_enum Hg.out Htm.out he).2.2.2.1
           omega
          | false => rfl
         have hmm := List.getElem_mem hjl
         have hxo := good_fieldOk Hg.out Htm.out hen hmm
         have hkl := kindName_len Hg.out Htm.out hen hmm
         have hfn : namedF t.fields[j].name = true := (msg_field (good_msg Hg.out Htm.out hen) hmm).1
         have htl : (t.fields.drop j).flatMap printField ++ R2 = printField t.fields[j] ++ ((t.fields.drop (j + 1)).flatMap printField ++ R2) := by rw [List.drop_eq_getElem_cons hjl, List.flatMap_cons, List.append_assoc]
         obtain ⟨x, hx⟩ : ∃ x, x = t.fields[j] := ⟨_, rfl⟩
         rw [← hx] at hre3 hxo htl hkl hfn
         obtain rfl : es3 = fieldCells x := hre3
         rw [htl, tail_fieldR] at hL
         obtain ⟨fi, fn, ft, fk, fr⟩ := x
         obtain ⟨_, hi1, hi2, hk1, hk5, hr1, hr3, _⟩ := hxo
         dsimp only at hi1 hi2 hk1 hk5 hr1 hr3 hL hfn
         obtain ⟨kk, rfl⟩ : ∃ k : Nat, fk = (k : Int) := ⟨fk.toNat, by omega⟩
         obtain ⟨rr, rfl⟩ : ∃ k : Nat, fr = (k : Int) := ⟨fr.toNat, by omega⟩
         have q0 : wr.cell? ⟨g3, o3 + j * 5, none⟩ = some (.int .i64 fi) := hc.at_ 0 rfl
         have q1 : wr.cell? ⟨g3, o3 + j * 5 + 1, none⟩ = some (.string fn) := hc.at_ 1 rfl
         have q2 : wr.cell? ⟨g3, o3 + j * 5 + 2, none⟩ = some (.string ft) := hc.at_ 2 rfl
         have q3 : wr.cell? ⟨g3, o3 + j * 5 + 3, none⟩ = some (.int .i64 kk) := hc.at_ 3 rfl
         have q4 : wr.cell? ⟨g3, o3 + j * 5 + 4, none⟩ = some (.int .i64 rr) := hc.at_ 4 rfl
         have hn12 := named_short hfn
         have hsv : (itoaB fi).size ≤ 14 := itoaS_len (by omega) (by omega)
         have Hdec := Lib.hid (fun W => decimal_any fi W (by omega) (by omega))
         have hadd := hL.add
         have hacs := hL.size
         have hw' := Hwl.out
         have hbig2 : ac.size ≤ 1600 := by omega
         obtain ⟨hra, hrb⟩ := r1_at (rr := rr) (by omega) (by omega)
         have hka := r2_at (fi := fi) (fn := fn) (ft := ft) (kk := kk) (rule := (rr : Int)) (by omega) (by omega)
         obtain ⟨sv, hsve⟩ : ∃ s, s = itoaB fi := ⟨_, rfl⟩
         rw [← hsve] at Hdec hsv hadd
         obtain ⟨rs, hrs⟩ : ∃ s, s = rowS rr := ⟨_, rfl⟩
         rw [← hrs] at hra hrb hadd
         obtain ⟨kn, hkn⟩ : ∃ s, s = kindName ⟨fi, fn, ft, kk, rr⟩ := ⟨_, rfl⟩
         rw [← hkn] at hka hkl hadd
         have Hadd := Lib.hid hadd
         have Hr1 := Lib.hid hra
         have Hr2 := Lib.hid hka
         have g1 : ¬ 9223372036854775807 < 2 + sv.size := by omega
         have g2 : ¬ 9223372036854775807 < 2 + sv.size + rs.size := by omega
         have g3' : ¬ 9223372036854775807 < 2 + sv.size + rs.size + kn.size := by omega
         have g4 : ¬ 9223372036854775807 < 2 + sv.size + rs.size + kn.size + 1 := by omega
         have g5 : ¬ 9223372036854775807 < 2 + sv.size + rs.size + kn.size + 1 + fn.size := by omega
         have g6 : ¬ 9223372036854775807 < 2 + sv.size + rs.size + kn.size + 1 + fn.size + 2 := by omega
         have g7 : ¬ 9223372036854775807 < ac.size + (2 + sv.size + rs.size + kn.size + 1 + fn.size + 2) := by omega
         have b1 : (rr : Int) < 4 := by omega
         have b2 : (kk : Int) < 6 := by omega
         have b3 : (0 : Int) ≤ (rr : Int) := by omega
         have b4 : (0 : Int) ≤ (kk : Int) := by omega
         have ej : IntKind.i64.wrap ((j : Int) + 1) = (j : Int) + 1 := IntWalk.i64_in _ (by omega)
         have zX := Box.new wr 44 [.int .i64 fi, .string fn, .string ft, .int .i64 kk, .int .i64 rr]
         replace zY := zY.alloc (.cells [.int .i64 fi, .string fn, .string ft, .int .i64 kk, .int .i64 rr].toArray 44)
         replace hw := hw.alloc hw.size (.cells [.int .i64 fi, .string fn, .string ft, .int .i64 kk, .int .i64 rr].toArray 44)
         clear hc hc3 hS3 hg3 htl hx hL hadd hacs hw' hsve hrs hkn hra hrb hka hkl hfn hn12 hsv hi1 hi2 hk1 hk5 hr1 hr3 hmm hen
         go_upto_region 19 with fail
         clear q0 q1 q2 q3 q4 hgl
         generalize wr.heap.size = X at zX ⊢
         generalize wr.alloc _ = W3 at zX zY hw ⊢
         replace zX := zX.drew
         replace zY := zY.drew
         replace hw := below_drew hw
         have HSK : Hid (∀ W', Box W' X 44 [.int .i64 fi, .string fn, .string ft, .int .i64 kk, .int .i64 rr] → (fun W' => World.cell? W' ⟨X, 0, none⟩ = some (.int .i64 fi) ∧ World.cell? W' ⟨X, 1, none⟩ = some (.string fn) ∧ World.cell? W' ⟨X, 2, none⟩ = some (.string ft) ∧ World.cell? W' ⟨X, 3, none⟩ = some (.int .i64 kk) ∧ World.cell? W' ⟨X, 4, none⟩ = some (.int .i64 rr)) W') := fun W' h => h.five
         have hS := HSK.out _ zX
         refine lateP_start (fun W' => World.cell? W' ⟨X, 0, none⟩ = some (.int .i64 fi) ∧ World.cell? W' ⟨X, 1, none⟩ = some (.string fn) ∧ World.cell? W' ⟨X, 2, none⟩ = some (.string ft) ∧ World.cell? W' ⟨X, 3, none⟩ = some (.int .i64 kk) ∧ World.cell? W' ⟨X, 4, none⟩ = some (.int .i64 rr)) (fun _ => true) (by kernel_rfl) ?_
         generalize W3.drew = Wd at zX zY hw hS ⊢
         refine ppP 0 ?_
         try simp only [pu]
         refine ppP 1 ?_
         try simp only [pu]
         refine tkP 2 hS ?_
         try simp only [pu]
         refine ppP 6 ?_
         try simp only [pu]
         refine tkP 7 hS ?_
         try simp only [pu]
         refine ppP 11 ?_
         try simp only [pu]
         refine tkP 12 hS ?_
         try simp only [pu]
         refine ppP 13 ?_
         try simp only [pu]
         refine tkP 14 hS ?_
         try simp only [pu]
         refine ppP 16 ?_
         try simp only [pu]
         refine tkP 17 hS ?_
         try simp only [pu]
         refine ppP 22 ?_
         try simp only [pu]
         refine tkP 23 hS ?_
         try simp only [pu]
         refine lateP_three (i := 3) (j := 5) (k := 15) rfl rfl rfl (by kernel_rfl) (fun K hK => ?_) (fun K hK => ?_) (fun K hK => ?_)
         ·go_simp
          refine (Hdec.out _).mono ?_
          rintro e w5 ⟨rfl, rfl⟩
          refine hK.out _ _ (fun _ _ => hS) ?_
          clear hK K
          try simp only [pu]
          refine ppP 4 ?_
          try simp only [pu]
          refine lateP_two (i := 5) (j := 15) rfl rfl (by kernel_rfl) (fun K hK => ?_) (fun K hK => ?_)
          ·go_simp
           have z1 := Box.newB hw 9 [.string ⟨#[32]⟩, .string ⟨#[32, 111, 110, 101, 32]⟩, .string ⟨#[32, 109, 97, 121, 98, 101, 32]⟩, .string ⟨#[32, 109, 97, 110, 121, 32]⟩]
           try simp only [World.size_alloc] at z1
           replace zY := zY.alloc (.cells [.string ⟨#[32]⟩, .string ⟨#[32, 111, 110, 101, 32]⟩, .string ⟨#[32, 109, 97, 121, 98, 101, 32]⟩, .string ⟨#[32, 109, 97, 110, 121, 32]⟩].toArray 9)
           replace zX := zX.alloc (.cells [.string ⟨#[32]⟩, .string ⟨#[32, 111, 110, 101, 32]⟩, .string ⟨#[32, 109, 97, 121, 98, 101, 32]⟩, .string ⟨#[32, 109, 97, 110, 121, 32]⟩].toArray 9)
           replace hw := hw.alloc hw.size (.cells [.string ⟨#[32]⟩, .string ⟨#[32, 111, 110, 101, 32]⟩, .string ⟨#[32, 109, 97, 121, 98, 101, 32]⟩, .string ⟨#[32, 109, 97, 110, 121, 32]⟩].toArray 9)
           replace hS := HSK.out _ zX
           refine hK.out _ _ (fun _ _ => hS) ?_
           clear hK K
           try simp only [pu]
           refine anyP_more (T := fun W' => World.cell? W' ⟨_, rr, none⟩ = some (.string rs)) (fun _ => rfl) _ _ _ _ hS ((z1.cell rr).trans Hr1.out) ?_
           have hS := And.intro hS ((z1.cell rr).trans Hr1.out)
           refine ppP 8 ?_
           try simp only [pu]
           refine tkP 9 hS ?_
           try simp only [pu]
           refine ppP 10 ?_
           try simp only [pu]
           refine lateP_one (i := 15) rfl (by kernel_rfl) (fun K hK => ?_)
           go_simp
           have z2 := Box.newB hw 9 [.string ⟨#[]⟩, .string ⟨#[98, 111, 111, 108]⟩, .string ⟨#[105, 110, 116]⟩, .string ⟨#[116, 101, 120, 116]⟩, .string ft, .string ft]
           try simp only [World.size_alloc] at z2
           replace zY := zY.alloc (.cells [.string ⟨#[]⟩, .string ⟨#[98, 111, 111, 108]⟩, .string ⟨#[105, 110, 116]⟩, .string ⟨#[116, 101, 120, 116]⟩, .string ft, .string ft].toArray 9)
           replace zX := zX.alloc (.cells [.string ⟨#[]⟩, .string ⟨#[98, 111, 111, 108]⟩, .string ⟨#[105, 110, 116]⟩, .string ⟨#[116, 101, 120, 116]⟩, .string ft, .string ft].toArray 9)
           replace hw := hw.alloc hw.size (.cells [.string ⟨#[]⟩, .string ⟨#[98, 111, 111, 108]⟩, .string ⟨#[105, 110, 116]⟩, .string ⟨#[116, 101, 120, 116]⟩, .string ft, .string ft].toArray 9)
           replace z1 := z1.alloc (.cells [.string ⟨#[]⟩, .string ⟨#[98, 111, 111, 108]⟩, .string ⟨#[105, 110, 116]⟩, .string ⟨#[116, 101, 120, 116]⟩, .string ft, .string ft].toArray 9)
           replace hS := And.intro (HSK.out _ zX) ((z1.cell rr).trans Hr1.out)
           refine hK.out _ _ (fun _ _ => hS) ?_
           clear hK K
           try simp only [pu]
           refine anyP_more (T := fun W' => World.cell? W' ⟨_, kk, none⟩ = some (.string kn)) (fun _ => rfl) _ _ _ _ hS ((z2.cell kk).trans Hr2.out) ?_
           have hS := And.intro hS ((z2.cell kk).trans Hr2.out)
           refine ppP 18 ?_
           try simp only [pu]
           refine tkP 19 hS ?_
           try simp only [pu]
           refine ppP 20 ?_
           try simp only [pu]
           refine ppP 21 ?_
           try simp only [pu]
           refine ppP 24 ?_
           try simp only [pu]
           refine ppP 25 ?_
           try simp only [pu]
           refine ppP 26 ?_
           try simp only [pu]
           refine ppP 27 ?_
           try simp only [pu]
           refine lateP_done (by kernel_rfl) ?_ _
           clear hS HSK
           go_wp2_with fail
           go_roundw
           case rel => exact ⟨j + 1, _, rfl, by go_num, by go_light; omega, Hadd.out, zY, hw⟩
           case measure => go_light; simp [intOf]; omega
          ·go_simp
           have z2 := Box.newB hw 9 [.string ⟨#[]⟩, .string ⟨#[98, 111, 111, 108]⟩, .string ⟨#[105, 110, 116]⟩, .string ⟨#[116, 101, 120, 116]⟩, .string ft, .string ft]
           try simp only [World.size_alloc] at z2
           replace zY := zY.alloc (.cells [.string ⟨#[]⟩, .string ⟨#[98, 111, 111, 108]⟩, .string ⟨#[105, 110, 116]⟩, .string ⟨#[116, 101, 120, 116]⟩, .string ft, .string ft].toArray 9)
           replace zX := zX.alloc (.cells [.string ⟨#[]⟩, .string ⟨#[98, 111, 111, 108]⟩, .string ⟨#[105, 110, 116]⟩, .string ⟨#[116, 101, 120, 116]⟩, .string ft, .string ft].toArray 9)
           replace hw := hw.alloc hw.size (.cells [.string ⟨#[]⟩, .string ⟨#[98, 111, 111, 108]⟩, .string ⟨#[105, 110, 116]⟩, .string ⟨#[116, 101, 120, 116]⟩, .string ft, .string ft].toArray 9)
           replace hS := HSK.out _ zX
           refine hK.out _ _ (fun _ _ => hS) ?_
           clear hK K
           try simp only [pu]
           refine anyP_more (T := fun W' => World.cell? W' ⟨_, kk, none⟩ = some (.string kn)) (fun _ => rfl) _ _ _ _ hS ((z2.cell kk).trans Hr2.out) ?_
           have hS := And.intro hS ((z2.cell kk).trans Hr2.out)
           refine ppP 18 ?_
           try simp only [pu]
           refine tkP 19 hS ?_
           try simp only [pu]
           refine lateP_one (i := 5) rfl (by kernel_rfl) (fun K hK => ?_)
           go_simp
           have z1 := Box.newB hw 9 [.string ⟨#[32]⟩, .string ⟨#[32, 111, 110, 101, 32]⟩, .string ⟨#[32, 109, 97, 121, 98, 101, 32]⟩, .string ⟨#[32, 109, 97, 110, 121, 32]⟩]
           try simp only [World.size_alloc] at z1
           replace zY := zY.alloc (.cells [.string ⟨#[32]⟩, .string ⟨#[32, 111, 110, 101, 32]⟩, .string ⟨#[32, 109, 97, 121, 98, 101, 32]⟩, .string ⟨#[32, 109, 97, 110, 121, 32]⟩].toArray 9)
           replace zX := zX.alloc (.cells [.string ⟨#[32]⟩, .string ⟨#[32, 111, 110, 101, 32]⟩, .string ⟨#[32, 109, 97, 121, 98, 101, 32]⟩, .string ⟨#[32, 109, 97, 110, 121, 32]⟩].toArray 9)
           replace hw := hw.alloc hw.size (.cells [.string ⟨#[32]⟩, .string ⟨#[32, 111, 110, 101, 32]⟩, .string ⟨#[32, 109, 97, 121, 98, 101, 32]⟩, .string ⟨#[32, 109, 97, 110, 121, 32]⟩].toArray 9)
           replace z2 := z2.alloc (.cells [.string ⟨#[32]⟩, .string ⟨#[32, 111, 110, 101, 32]⟩, .string ⟨#[32, 109, 97, 121, 98, 101, 32]⟩, .string ⟨#[32, 109, 97, 110, 121, 32]⟩].toArray 9)
           replace hS := And.intro (HSK.out _ zX) ((z2.cell kk).trans Hr2.out)
           refine hK.out _ _ (fun _ _ => hS) ?_
           clear hK K
           try simp only [pu]
           refine anyP_more (T := fun W' => World.cell? W' ⟨_, rr, none⟩ = some (.string rs)) (fun _ => rfl) _ _ _ _ hS ((z1.cell rr).trans Hr1.out) ?_
           have hS := And.intro hS ((z1.cell rr).trans Hr1.out)
           refine ppP 8 ?_
           try simp only [pu]
           refine tkP 9 hS ?_
           try simp only [pu]
           refine ppP 10 ?_
           try simp only [pu]
           refine ppP 20 ?_
           try simp only [pu]
           refine ppP 21 ?_
           try simp only [pu]
           refine ppP 24 ?_
           try simp only [pu]
           refine ppP 25 ?_
           try simp only [pu]
           refine ppP 26 ?_
           try simp only [pu]
           refine ppP 27 ?_
           try simp only [pu]
           refine lateP_done (by kernel_rfl) ?_ _
           clear hS HSK
           go_wp2_with fail
           go_roundw
           case rel => exact ⟨j + 1, _, rfl, by go_num, by go_light; omega, Hadd.out, zY, hw⟩
           case measure => go_light; simp [intOf]; omega
         ·go_simp
          have z1 := Box.newB hw 9 [.string ⟨#[32]⟩, .string ⟨#[32, 111, 110, 101, 32]⟩, .string ⟨#[32, 109, 97, 121, 98, 101, 32]⟩, .string ⟨#[32, 109, 97, 110, 121, 32]⟩]
          try simp only [World.size_alloc] at z1
          replace zY := zY.alloc (.cells [.string ⟨#[32]⟩, .string ⟨#[32, 111, 110, 101, 32]⟩, .string ⟨#[32, 109, 97, 121, 98, 101, 32]⟩, .string ⟨#[32, 109, 97, 110, 121, 32]⟩].toArray 9)
          replace zX := zX.alloc (.cells [.string ⟨#[32]⟩, .string ⟨#[32, 111, 110, 101, 32]⟩, .string ⟨#[32, 109, 97, 121, 98, 101, 32]⟩, .string ⟨#[32, 109, 97, 110, 121, 32]⟩].toArray 9)
          replace hw := hw.alloc hw.size (.cells [.string ⟨#[32]⟩, .string ⟨#[32, 111, 110, 101, 32]⟩, .string ⟨#[32, 109, 97, 121, 98, 101, 32]⟩, .string ⟨#[32, 109, 97, 110, 121, 32]⟩].toArray 9)
          replace hS := HSK.out _ zX
          refine hK.out _ _ (fun _ _ => hS) ?_
          clear hK K
          try simp only [pu]
          refine anyP_more (T := fun W' => World.cell? W' ⟨_, rr, none⟩ = some (.string rs)) (fun _ => rfl) _ _ _ _ hS ((z1.cell rr).trans Hr1.out) ?_
          have hS := And.intro hS ((z1.cell rr).trans Hr1.out)
          refine ppP 8 ?_
          try simp only [pu]
          refine tkP 9 hS ?_
          try simp only [pu]
          refine lateP_two (i := 3) (j := 15) rfl rfl (by kernel_rfl) (fun K hK => ?_) (fun K hK => ?_)
          ·go_simp
           refine (Hdec.out _).mono ?_
           rintro e w5 ⟨rfl, rfl⟩
           refine hK.out _ _ (fun _ _ => hS) ?_
           clear hK K
           try simp only [pu]
           refine ppP 4 ?_
           try simp only [pu]
           refine ppP 10 ?_
           try simp only [pu]
           refine lateP_one (i := 15) rfl (by kernel_rfl) (fun K hK => ?_)
           go_simp
           have z2 := Box.newB hw 9 [.string ⟨#[]⟩, .string ⟨#[98, 111, 111, 108]⟩, .string ⟨#[105, 110, 116]⟩, .string ⟨#[116, 101, 120, 116]⟩, .string ft, .string ft]
           try simp only [World.size_alloc] at z2
           replace zY := zY.alloc (.cells [.string ⟨#[]⟩, .string ⟨#[98, 111, 111, 108]⟩, .string ⟨#[105, 110, 116]⟩, .string ⟨#[116, 101, 120, 116]⟩, .string ft, .string ft].toArray 9)
           replace zX := zX.alloc (.cells [.string ⟨#[]⟩, .string ⟨#[98, 111, 111, 108]⟩, .string ⟨#[105, 110, 116]⟩, .string ⟨#[116, 101, 120, 116]⟩, .string ft, .string ft].toArray 9)
           replace hw := hw.alloc hw.size (.cells [.string ⟨#[]⟩, .string ⟨#[98, 111, 111, 108]⟩, .string ⟨#[105, 110, 116]⟩, .string ⟨#[116, 101, 120, 116]⟩, .string ft, .string ft].toArray 9)
           replace z1 := z1.alloc (.cells [.string ⟨#[]⟩, .string ⟨#[98, 111, 111, 108]⟩, .string ⟨#[105, 110, 116]⟩, .string ⟨#[116, 101, 120, 116]⟩, .string ft, .string ft].toArray 9)
           replace hS := And.intro (HSK.out _ zX) ((z1.cell rr).trans Hr1.out)
           refine hK.out _ _ (fun _ _ => hS) ?_
           clear hK K
           try simp only [pu]
           refine anyP_more (T := fun W' => World.cell? W' ⟨_, kk, none⟩ = some (.string kn)) (fun _ => rfl) _ _ _ _ hS ((z2.cell kk).trans Hr2.out) ?_
           have hS := And.intro hS ((z2.cell kk).trans Hr2.out)
           refine ppP 18 ?_
           try simp only [pu]
           refine tkP 19 hS ?_
           try simp only [pu]
           refine ppP 20 ?_
           try simp only [pu]
           refine ppP 21 ?_
           try simp only [pu]
           refine ppP 24 ?_
           try simp only [pu]
           refine ppP 25 ?_
           try simp only [pu]
           refine ppP 26 ?_
           try simp only [pu]
           refine ppP 27 ?_
           try simp only [pu]
           refine lateP_done (by kernel_rfl) ?_ _
           clear hS HSK
           go_wp2_with fail
           go_roundw
           case rel => exact ⟨j + 1, _, rfl, by go_num, by go_light; omega, Hadd.out, zY, hw⟩
           case measure => go_light; simp [intOf]; omega
          ·go_simp
           have z2 := Box.newB hw 9 [.string ⟨#[]⟩, .string ⟨#[98, 111, 111, 108]⟩, .string ⟨#[105, 110, 116]⟩, .string ⟨#[116, 101, 120, 116]⟩, .string ft, .string ft]
           try simp only [World.size_alloc] at z2
           replace zY := zY.alloc (.cells [.string ⟨#[]⟩, .string ⟨#[98, 111, 111, 108]⟩, .string ⟨#[105, 110, 116]⟩, .string ⟨#[116, 101, 120, 116]⟩, .string ft, .string ft].toArray 9)
           replace zX := zX.alloc (.cells [.string ⟨#[]⟩, .string ⟨#[98, 111, 111, 108]⟩, .string ⟨#[105, 110, 116]⟩, .string ⟨#[116, 101, 120, 116]⟩, .string ft, .string ft].toArray 9)
           replace hw := hw.alloc hw.size (.cells [.string ⟨#[]⟩, .string ⟨#[98, 111, 111, 108]⟩, .string ⟨#[105, 110, 116]⟩, .string ⟨#[116, 101, 120, 116]⟩, .string ft, .string ft].toArray 9)
           replace z1 := z1.alloc (.cells [.string ⟨#[]⟩, .string ⟨#[98, 111, 111, 108]⟩, .string ⟨#[105, 110, 116]⟩, .string ⟨#[116, 101, 120, 116]⟩, .string ft, .string ft].toArray 9)
           replace hS := And.intro (HSK.out _ zX) ((z1.cell rr).trans Hr1.out)
           refine hK.out _ _ (fun _ _ => hS) ?_
           clear hK K
           try simp only [pu]
           refine anyP_more (T := fun W' => World.cell? W' ⟨_, kk, none⟩ = some (.string kn)) (fun _ => rfl) _ _ _ _ hS ((z2.cell kk).trans Hr2.out) ?_
           have hS := And.intro hS ((z2.cell kk).trans Hr2.out)
           refine ppP 18 ?_
           try simp only [pu]
           refine tkP 19 hS ?_
           try simp only [pu]
           refine lateP_one (i := 3) rfl (by kernel_rfl) (fun K hK => ?_)
           go_simp
           refine (Hdec.out _).mono ?_
           rintro e w5 ⟨rfl, rfl⟩
           refine hK.out _ _ (fun _ _ => hS) ?_
           clear hK K
           try simp only [pu]
           refine ppP 4 ?_
           try simp only [pu]
           refine ppP 10 ?_
           try simp only [pu]
           refine ppP 20 ?_
           try simp only [pu]
           refine ppP 21 ?_
           try simp only [pu]
           refine ppP 24 ?_
           try simp only [pu]
           refine ppP 25 ?_
           try simp only [pu]
           refine ppP 26 ?_
           try simp only [pu]
           refine ppP 27 ?_
           try simp only [pu]
           refine lateP_done (by kernel_rfl) ?_ _
           clear hS HSK
           go_wp2_with fail
           go_roundw
           case rel => exact ⟨j + 1, _, rfl, by go_num, by go_light; omega, Hadd.out, zY, hw⟩
           case measure => go_light; simp [intOf]; omega
         ·go_simp
          have z2 := Box.newB hw 9 [.string ⟨#[]⟩, .string ⟨#[98, 111, 111, 108]⟩, .string ⟨#[105, 110, 116]⟩, .string ⟨#[116, 101, 120, 116]⟩, .string ft, .string ft]
          try simp only [World.size_alloc] at z2
          replace zY := zY.alloc (.cells [.string ⟨#[]⟩, .string ⟨#[98, 111, 111, 108]⟩, .string ⟨#[105, 110, 116]⟩, .string ⟨#[116, 101, 120, 116]⟩, .string ft, .string ft].toArray 9)
          replace zX := zX.alloc (.cells [.string ⟨#[]⟩, .string ⟨#[98, 111, 111, 108]⟩, .string ⟨#[105, 110, 116]⟩, .string ⟨#[116, 101, 120, 116]⟩, .string ft, .string ft].toArray 9)
          replace hw := hw.alloc hw.size (.cells [.string ⟨#[]⟩, .string ⟨#[98, 111, 111, 108]⟩, .string ⟨#[105, 110, 116]⟩, .string ⟨#[116, 101, 120, 116]⟩, .string ft, .string ft].toArray 9)
          replace hS := HSK.out _ zX
          refine hK.out _ _ (fun _ _ => hS) ?_
          clear hK K
          try simp only [pu]
          refine anyP_more (T := fun W' => World.cell? W' ⟨_, kk, none⟩ = some (.string kn)) (fun _ => rfl) _ _ _ _ hS ((z2.cell kk).trans Hr2.out) ?_
          have hS := And.intro hS ((z2.cell kk).trans Hr2.out)
          refine ppP 18 ?_
          try simp only [pu]
          refine tkP 19 hS ?_
          try simp only [pu]
          refine lateP_two (i := 3) (j := 5) rfl rfl (by kernel_rfl) (fun K hK => ?_) (fun K hK => ?_)
          ·go_simp
           refine (Hdec.out _).mono ?_
           rintro e w5 ⟨rfl, rfl⟩
           refine hK.out _ _ (fun _ _ => hS) ?_
           clear hK K
           try simp only [pu]
           refine ppP 4 ?_
           try simp only [pu]
           refine lateP_one (i := 5) rfl (by kernel_rfl) (fun K hK => ?_)
           go_simp
           have z1 := Box.newB hw 9 [.string ⟨#[32]⟩, .string ⟨#[32, 111, 110, 101, 32]⟩, .string ⟨#[32, 109, 97, 121, 98, 101, 32]⟩, .string ⟨#[32, 109, 97, 110, 121, 32]⟩]
           try simp only [World.size_alloc] at z1
           replace zY := zY.alloc (.cells [.string ⟨#[32]⟩, .string ⟨#[32, 111, 110, 101, 32]⟩, .string ⟨#[32, 109, 97, 121, 98, 101, 32]⟩, .string ⟨#[32, 109, 97, 110, 121, 32]⟩].toArray 9)
           replace zX := zX.alloc (.cells [.string ⟨#[32]⟩, .string ⟨#[32, 111, 110, 101, 32]⟩, .string ⟨#[32, 109, 97, 121, 98, 101, 32]⟩, .string ⟨#[32, 109, 97, 110, 121, 32]⟩].toArray 9)
           replace hw := hw.alloc hw.size (.cells [.string ⟨#[32]⟩, .string ⟨#[32, 111, 110, 101, 32]⟩, .string ⟨#[32, 109, 97, 121, 98, 101, 32]⟩, .string ⟨#[32, 109, 97, 110, 121, 32]⟩].toArray 9)
           replace z2 := z2.alloc (.cells [.string ⟨#[32]⟩, .string ⟨#[32, 111, 110, 101, 32]⟩, .string ⟨#[32, 109, 97, 121, 98, 101, 32]⟩, .string ⟨#[32, 109, 97, 110, 121, 32]⟩].toArray 9)
           replace hS := And.intro (HSK.out _ zX) ((z2.cell kk).trans Hr2.out)
           refine hK.out _ _ (fun _ _ => hS) ?_
           clear hK K
           try simp only [pu]
           refine anyP_more (T := fun W' => World.cell? W' ⟨_, rr, none⟩ = some (.string rs)) (fun _ => rfl) _ _ _ _ hS ((z1.cell rr).trans Hr1.out) ?_
           have hS := And.intro hS ((z1.cell rr).trans Hr1.out)
           refine ppP 8 ?_
           try simp only [pu]
           refine tkP 9 hS ?_
           try simp only [pu]
           refine ppP 10 ?_
           try simp only [pu]
           refine ppP 20 ?_
           try simp only [pu]
           refine ppP 21 ?_
           try simp only [pu]
           refine ppP 24 ?_
           try simp only [pu]
           refine ppP 25 ?_
           try simp only [pu]
           refine ppP 26 ?_
           try simp only [pu]
           refine ppP 27 ?_
           try simp only [pu]
           refine lateP_done (by kernel_rfl) ?_ _
           clear hS HSK
           go_wp2_with fail
           go_roundw
           case rel => exact ⟨j + 1, _, rfl, by go_num, by go_light; omega, Hadd.out, zY, hw⟩
           case measure => go_light; simp [intOf]; omega
          ·go_simp
           have z1 := Box.newB hw 9 [.string ⟨#[32]⟩, .string ⟨#[32, 111, 110, 101, 32]⟩, .string ⟨#[32, 109, 97, 121, 98, 101, 32]⟩, .string ⟨#[32, 109, 97, 110, 121, 32]⟩]
           try simp only [World.size_alloc] at z1
           replace zY := zY.alloc (.cells [.string ⟨#[32]⟩, .string ⟨#[32, 111, 110, 101, 32]⟩, .string ⟨#[32, 109, 97, 121, 98, 101, 32]⟩, .string ⟨#[32, 109, 97, 110, 121, 32]⟩].toArray 9)
           replace zX := zX.alloc (.cells [.string ⟨#[32]⟩, .string ⟨#[32, 111, 110, 101, 32]⟩, .string ⟨#[32, 109, 97, 121, 98, 101, 32]⟩, .string ⟨#[32, 109, 97, 110, 121, 32]⟩].toArray 9)
           replace hw := hw.alloc hw.size (.cells [.string ⟨#[32]⟩, .string ⟨#[32, 111, 110, 101, 32]⟩, .string ⟨#[32, 109, 97, 121, 98, 101, 32]⟩, .string ⟨#[32, 109, 97, 110, 121, 32]⟩].toArray 9)
           replace z2 := z2.alloc (.cells [.string ⟨#[32]⟩, .string ⟨#[32, 111, 110, 101, 32]⟩, .string ⟨#[32, 109, 97, 121, 98, 101, 32]⟩, .string ⟨#[32, 109, 97, 110, 121, 32]⟩].toArray 9)
           replace hS := And.intro (HSK.out _ zX) ((z2.cell kk).trans Hr2.out)
           refine hK.out _ _ (fun _ _ => hS) ?_
           clear hK K
           try simp only [pu]
           refine anyP_more (T := fun W' => World.cell? W' ⟨_, rr, none⟩ = some (.string rs)) (fun _ => rfl) _ _ _ _ hS ((z1.cell rr).trans Hr1.out) ?_
           have hS := And.intro hS ((z1.cell rr).trans Hr1.out)
           refine ppP 8 ?_
           try simp only [pu]
           refine tkP 9 hS ?_
           try simp only [pu]
           refine lateP_one (i := 3) rfl (by kernel_rfl) (fun K hK => ?_)
           go_simp
           refine (Hdec.out _).mono ?_
           rintro e w5 ⟨rfl, rfl⟩
           refine hK.out _ _ (fun _ _ => hS) ?_
           clear hK K
           try simp only [pu]
           refine ppP 4 ?_
           try simp only [pu]
           refine ppP 10 ?_
           try simp only [pu]
           refine ppP 20 ?_
           try simp only [pu]
           refine ppP 21 ?_
           try simp only [pu]
           refine ppP 24 ?_
           try simp only [pu]
           refine ppP 25 ?_
           try simp only [pu]
           refine ppP 26 ?_
           try simp only [pu]
           refine ppP 27 ?_
           try simp only [pu]
           refine lateP_done (by kernel_rfl) ?_ _
           clear hS HSK
           go_wp2_with fail
           go_roundw
           case rel => exact ⟨j + 1, _, rfl, by go_num, by go_light; omega, Hadd.out, zY, hw⟩
           case measure => go_light; simp [intOf]; omega
        ·--[REST2
         obtain rfl : j = t.fields.length := by omega
         rw [List.drop_length, List.flatMap_nil, List.nil_append, HR2.out, gone_start] at hL
         have y3 : wr.cell? ⟨Y, 3, none⟩ = some (.slice A2 t.gone.length k2) := zY.cell 3
         have yl := zY.lt
         clear HR2 hj hjl
         go_wp2_with fail
         clear y3 yl
         go_loopw [5, 97] (fun c5 c97 wi => ∃ (j : Nat) (ac : ByteArray), c5 = .string ac ∧ c97 = .int .i64 j ∧ j ≤ t.gone.length ∧ Left whole ac (goneT t.gone ([125, 10] ++ R) j) ∧ Box wi Y 40 [.string t.name, .bool t.enum, .slice A1 t.fields.length k1, .slice A2 t.gone.length k2, .slice A3 t.items.length k3] ∧ Below w.heap.size w wi) (fun _ c97 _ => t.gone.length - (intOf c97).toNat)
         case atStart => exact ⟨0, _, rfl, rfl, Nat.zero_le _, hL, zY, hw⟩
         case round =>
          clear hL zY hw
          obtain ⟨j, ac, rfl, rfl, hj, hL, zY, hw⟩ := hrel
          have hacs := hL.size
          have hw' := Hwl.out
          have hbig2 : ac.size ≤ 1600 := by omega
          clear hacs hw'
          by_cases hjl : j < t.gone.length
          ·--[GONE
           obtain ⟨g3, o3, rfl, hS3, hg3⟩ := Hrg.out.base (by omega)
           have hc := (Hrg.out.flat (enc := fun x : Int => [.int .i64 x]) hjl).keep (Keep.of_below hw) hS3
           have hgl : g3 < wr.heap.size := Nat.lt_of_lt_of_le hg3 hw.size
           have q0 : wr.cell? ⟨g3, o3 + j, none⟩ = some (.int .i64 t.gone[j]) := by have := hc.at_ 0 rfl; simpa using this
           have hen : t.enum = false := by
            cases he : t.enum with
            | true =>
             have := (good_enum Hg.out Htm.out he).2.2.2.2
             omega
            | false => rfl
           have hbd : 1 ≤ t.gone[j] ∧ t.gone[j] ≤ 30 := by
            have := (good_msg Hg.out Htm.out hen).2.2.2.1 j hjl
            exact ⟨this.2.1, this.2.2.1⟩
           have hnx := fun h => gone_next hjl h ([125, 10] ++ R)
           have hfst := fun h : j = 0 => gone_first (l := t.gone) (by omega) ([125, 10] ++ R)
           obtain ⟨x, hx⟩ : ∃ x, x = t.gone[j] := ⟨_, rfl⟩
           rw [← hx] at hbd q0 hnx
           have hsv : (itoaB x).size ≤ 14 := itoaS_len (by omega) (by omega)
           have Hdec := Lib.hid (fun W => decimal_any x W (by omega) (by omega))
           by_cases hj0 : j = 0
           ·subst hj0
            rw [Nat.add_zero] at q0
            have h1 := hfst rfl
            rw [← hx] at h1
            rw [h1] at hL
            have hadd := hL.add.add
            obtain ⟨sv, hsve⟩ : ∃ s, s = itoaB x := ⟨_, rfl⟩
            rw [← hsve] at Hdec hsv hadd
            have Hadd := Lib.hid hadd
            have g1 : ¬ 9223372036854775807 < ac.size + 6 := by omega
            have g2 : ¬ 9223372036854775807 < 1 + sv.size := by omega
            have g3' : ¬ 9223372036854775807 < ac.size + 6 + (1 + sv.size) := by omega
            clear hc hS3 hg3 hbd hnx hfst hx h1 hL hadd hsve hsv hen
            go_wp2_with fail
            refine (Hdec.out _).mono ?_
            rintro e w5 ⟨rfl, rfl⟩
            clear q0 hgl
            go_wp2_with fail
            go_roundw
            case rel => exact ⟨0 + 1, _, rfl, by go_num, by go_light; omega, Hadd.out, zY, hw⟩
            case measure => go_light; simp [intOf]; omega
           ·rw [hnx (by omega)] at hL
            have hadd := hL.add
            obtain ⟨sv, hsve⟩ : ∃ s, s = itoaB x := ⟨_, rfl⟩
            rw [← hsve] at Hdec hsv hadd
            have Hadd := Lib.hid hadd
            have g2 : ¬ 9223372036854775807 < 1 + sv.size := by omega
            have g3' : ¬ 9223372036854775807 < ac.size + (1 + sv.size) := by omega
            have ej : IntKind.i64.wrap ((j : Int) + 1) = (j : Int) + 1 := IntWalk.i64_in _ (by omega)
            have hjb : ((j : Int) == 0) = false := by
             rw [beq_eq_false_iff_ne]; omega
            clear hc hS3 hg3 hbd hnx hfst hx hL hadd hsve hsv hen hj0
            go_wp2_with fail
            refine (Hdec.out _).mono ?_
            rintro e w5 ⟨rfl, rfl⟩
            clear q0 hgl
            go_wp2_with fail
            go_roundw
            case rel => exact ⟨j + 1, _, rfl, by go_num, by go_light; omega, Hadd.out, zY, hw⟩
            case measure => go_light; simp [intOf]; omega
          ·--[LAST
           obtain rfl : j = t.gone.length := by omega
           have y3 : wr.cell? ⟨Y, 3, none⟩ = some (.slice A2 t.gone.length k2) := zY.cell 3
           have yl := zY.lt
           by_cases hz : t.gone.length = 0
           ·have h1 : goneT t.gone ([125, 10] ++ R) t.gone.length = bytes ⟨#[125, 10]⟩ ++ R := by unfold goneT; rw [if_pos hz]
            rw [h1, HR.out] at hL
            have Hadd := Lib.hid hL.add
            have hz0 : ¬ ((0 : Int) < (t.gone.length : Int)) := by omega
            have g1 : ¬ 9223372036854775807 < ac.size + 2 := by omega
            clear hL h1 hj hjl hz
            go_wp2_with fail
            go_roundw
            case rel => exact ⟨n + 1, _, rfl, by go_num, by (go_light <;> omega), Hadd.out, hw⟩
            case measure => go_light; simp [intOf]; omega
           ·have hL2 := gone_end (l := t.gone) (by omega) ([125, 10] ++ R)
            rw [hL2] at hL
            have h2 : ([125, 10] : List UInt8) ++ R = bytes ⟨#[125, 10]⟩ ++ (b.drop (n + 1)).flatMap printType := by rw [HR.out]
            rw [h2] at hL
            have Hadd := Lib.hid hL.add.add
            have hz0 : (0 : Int) < (t.gone.length : Int) := by omega
            have g1 : ¬ 9223372036854775807 < ac.size + 2 := by omega
            have g2 : ¬ 9223372036854775807 < ac.size + 2 + 2 := by omega
            clear hL hL2 h2 hj hjl hz
            go_wp2_with fail
            go_roundw
            case rel => exact ⟨n + 1, _, rfl, by go_num, by (go_light <;> omega), Hadd.out, hw⟩
            case measure => go_light; simp [intOf]; omega
   ·--[END
    obtain rfl : n = b.length := by omega
    rw [List.drop_length] at hL
    have hacc : bytes acc = whole := by
     unfold Left at hL
     simpa using hL
    have Hacc := Lib.hid hacc
    clear hL hacc
    go_wp2_with fail
    refine bodyPost_ret (results_tmp2 rfl _ _ _) rfl ?_
    rw [He.out]
    refine ⟨?_, hw⟩
    rw [← Hwh.out, ← Hacc.out]
    simp [bytes]
 ·have hgb : (ge != 0) = true := by simpa using hg0
  have He : Hid (p = ([], ge)) := by show _ = _; rw [Hp.out, Hge.out]; unfold printF; rw [if_pos (by rw [← Hge.out]; exact hg0)]
  clear hg0
  go_wp2_with fail
  refine bodyPost_ret (results_tmp2 rfl _ _ _) rfl ?_
  rw [He.out]
  exact ⟨rfl, hw1⟩
end Go.Proofs.YtfobdbhmfohfnaaGreatDoor
