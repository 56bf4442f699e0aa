/- The walk of merge.Same at any two books: it tells whether they are alike. -/
import Derived.Test.YtihdnjnhhhafkaaGreatDoorEqGen
import Derived.Test.YtihdnjnhhhafkaaGreatDoorMergeEnds
set_option linter.all false
set_option maxRecDepth 100000
set_option maxHeartbeats 8000000
namespace Go.Proofs.YtihdnjnhhhafkaaGreatDoor
open Go.RowKit
theorem cmp_zero : ∀ (a b : List UInt8), (Lib.compareBytes a b == 0) = decide (a = b)
 | [], [] => by simp [Lib.compareBytes]
 | [], _ :: _ => by simp [Lib.compareBytes]
 | _ :: _, [] => by simp [Lib.compareBytes]
 | x :: l, y :: m => by
  unfold Lib.compareBytes
  by_cases h1 : x < y
  ·have : x ≠ y := fun e => by subst e; exact UInt8.lt_irrefl x h1
   simp [h1, this]
  ·rw [if_neg h1]
   by_cases h2 : y < x
   ·have : x ≠ y := fun e => by subst e; exact UInt8.lt_irrefl x h2
    simp [h2, this]
   ·rw [if_neg h2, cmp_zero l m]
    have : x = y := UInt8.le_antisymm (UInt8.not_lt.1 h2) (UInt8.not_lt.1 h1)
    simp [this]
theorem type_split (t t' : TypeD) : decide (t = t') = (decide (t.name = t'.name) && (t.enum == t'.enum) && decide (t.fields = t'.fields) && decide (t.gone = t'.gone) && decide (t.items = t'.items)) := by
 obtain ⟨a, b, c, d, e⟩ := t
 obtain ⟨a', b', c', d', e'⟩ := t'
 rw [Bool.eq_iff_iff]
 simp [and_assoc]
theorem sameC_gen (S S' : Nat → Prop) (cs cs' : List Value) (t t' : TypeD) (w : World) (ht : RType S w cs t) (ht' : RType S' w cs' t') : Calls Tryz.prog 23 #[.agg cs.toArray, .agg cs'.toArray] w (Ret w (.bool (decide (t = t')))) := by
 obtain ⟨P2, p2, P3, p3, P4, p4, rfl, hF, hG, hI⟩ := ht.parts
 obtain ⟨Q2, q2, Q3, q3, Q4, q4, rfl, hF', hG', hI'⟩ := ht'.parts
 have HF := Lib.hid hF
 have HF' := Lib.hid hF'
 have HG := Lib.hid hG
 have HG' := Lib.hid hG'
 have HI := Lib.hid hI
 have HI' := Lib.hid hI'
 obtain ⟨z1, z2, hb⟩ := boxes2 w [.string t.name, .bool t.enum, .slice P2 t.fields.length p2, .slice P3 t.gone.length p3, .slice P4 t.items.length p4] [.string t'.name, .bool t'.enum, .slice Q2 t'.fields.length q2, .slice Q3 t'.gone.length q3, .slice Q4 t'.items.length q4] 38 38
 obtain ⟨r, hr⟩ : ∃ r, r = decide (t = t') := ⟨_, rfl⟩
 rw [← hr]
 rw [type_split] at hr
 obtain ⟨b1, hb1⟩ : ∃ b, b = decide (t.name = t'.name) := ⟨_, rfl⟩
 obtain ⟨b2, hb2⟩ : ∃ b, b = (t.enum == t'.enum) := ⟨_, rfl⟩
 obtain ⟨b3, hb3⟩ : ∃ b, b = decide (t.fields = t'.fields) := ⟨_, rfl⟩
 obtain ⟨b4, hb4⟩ : ∃ b, b = decide (t.gone = t'.gone) := ⟨_, rfl⟩
 obtain ⟨b5, hb5⟩ : ∃ b, b = decide (t.items = t'.items) := ⟨_, rfl⟩
 rw [← hb1, ← hb2, ← hb3, ← hb4, ← hb5] at hr
 have Hr := Lib.hid hr
 have H1 := Lib.hid hb1
 have HF2 := Lib.hid (fun W (h : Below w.heap.size w W) => (hb3 ▸ eqlF_gen S S' _ _ _ _ W ((RSl.fair RField.fair).below HF.out h) ((RSl.fair RField.fair).below HF'.out h) : Calls Tryz.prog 25 #[.slice P2 t.fields.length p2, .slice Q2 t'.fields.length q2] W (Ret W (.bool b3))))
 have HG2 := Lib.hid (fun W (h : Below w.heap.size w W) => (hb4 ▸ eqlG_gen S S' _ _ _ _ W ((RSl.fair RInt.fair).below HG.out h) ((RSl.fair RInt.fair).below HG'.out h) : Calls Tryz.prog 26 #[.slice P3 t.gone.length p3, .slice Q3 t'.gone.length q3] W (Ret W (.bool b4))))
 have HI2 := Lib.hid (fun W (h : Below w.heap.size w W) => (hb5 ▸ eqlI_gen S S' _ _ _ _ W ((RSl.fair RItem.fair).below HI.out h) ((RSl.fair RItem.fair).below HI'.out h) : Calls Tryz.prog 27 #[.slice P4 t.items.length p4, .slice Q4 t'.items.length q4] W (Ret W (.bool b5))))
 have hbx : (t.enum == t'.enum) = b2 := hb2.symm
 clear ht ht' hF hF' hG hG' hI hI' hr hb1 hb2 hb3 hb4 hb5 HF HF' HG HG' HI HI'
 go_enter Tryz.func23, Tryz.ntmps23
 go_wp2_with fail
 refine (Tryz.strings_Compare _ _ _).mono ?_
 rintro e w1 ⟨rfl, rfl⟩
 have hc : (Lib.compareBytes t.name.data.toList t'.name.data.toList == 0) = b1 := by
  rw [cmp_zero, H1.out, Bool.eq_iff_iff, decide_eq_true_eq, decide_eq_true_eq]
  exact ⟨fun h => bytes_inj h, fun h => by rw [h]⟩
 try simp only [ByteArray.toList_eq] at *
 generalize Lib.compareBytes t.name.data.toList t'.name.data.toList = c at hc ⊢
 have m1 := z1.cell 1
 have n1 := z2.cell 1
 have m2 := z1.cell 2
 have n2 := z2.cell 2
 have l1 := z1.lt
 have l2 := z2.lt
 simp only [List.getElem?_cons_zero, List.getElem?_cons_succ] at m1 n1 m2 n2
 cases b1 with
 | false =>
  have hrf : r = false := by rw [Hr.out]; rfl
  subst hrf
  clear m1 n1 m2 n2
  go_wp2_with fail
  go_ret
  exact ⟨rfl, hb⟩
 | true =>
 cases b2 with
 | false =>
  have hrf : r = false := by rw [Hr.out]; rfl
  subst hrf
  go_wp2_with fail
  go_ret
  exact ⟨rfl, hb⟩
 | true =>
 go_wp2_with fail
 refine (HF2.out _ hb).mono ?_
 rintro e w2 ⟨rfl, hb2⟩
 have hw2 := below_via hb hb2 hb.size
 have y1 := z1.below hb2 z1.lt
 have y2 := z2.below hb2 z2.lt
 clear m1 n1 m2 n2 l1 l2 z1 z2 hb hb2 HF2
 have m3 := y1.cell 3
 have n3 := y2.cell 3
 have l1 := y1.lt
 have l2 := y2.lt
 simp only [List.getElem?_cons_zero, List.getElem?_cons_succ] at m3 n3
 cases b3 with
 | false =>
  have hrf : r = false := by rw [Hr.out]; rfl
  subst hrf
  go_wp2_with fail
  go_ret
  exact ⟨rfl, hw2⟩
 | true =>
 go_wp2_with fail
 refine (HG2.out _ hw2).mono ?_
 rintro e w3 ⟨rfl, hb3⟩
 have hw3 := below_via hw2 hb3 hw2.size
 have x1 := y1.below hb3 y1.lt
 have x2 := y2.below hb3 y2.lt
 clear m3 n3 l1 l2 y1 y2 hw2 hb3 HG2
 have m3 := x1.cell 4
 have n3 := x2.cell 4
 have l1 := x1.lt
 have l2 := x2.lt
 simp only [List.getElem?_cons_zero, List.getElem?_cons_succ] at m3 n3
 cases b4 with
 | false =>
  have hrf : r = false := by rw [Hr.out]; rfl
  subst hrf
  go_wp2_with fail
  go_ret
  exact ⟨rfl, hw3⟩
 | true =>
 go_wp2_with fail
 refine (HI2.out _ hw3).mono ?_
 rintro e w4 ⟨rfl, hb4⟩
 have hw4 := below_via hw3 hb4 hw3.size
 have hrf : r = b5 := by rw [Hr.out]; cases b5 <;> rfl
 subst hrf
 clear m3 n3 l1 l2 x1 x2 hb4 HI2
 go_wp2_with fail
 go_ret
 exact ⟨rfl, hw4⟩
theorem eqFunc_gen (S S' : Nat → Prop) (v v' : Value) (b b' : BookD) (w : World) (h1 : RSl 5 96 RType S w [v] b) (h2 : RSl 5 96 RType S' w [v'] b') : Calls Tryz.prog 22 #[v, v', .func (.func 23) #[] #[]] w (Ret w (.bool (decide (b = b')))) := by
 obtain ⟨A, d1, rfl, hlc, hlb⟩ := h1.form
 obtain ⟨A', d2, rfl, hlc', hlb'⟩ := h2.form
 have HL := Lib.hid h1
 have HL' := Lib.hid h2
 obtain ⟨r, hr0⟩ : ∃ r, r = decide (b = b') := ⟨_, rfl⟩
 rw [← hr0]
 have HR := Lib.hid hr0
 clear h1 h2 hr0
 obtain ⟨n', hn'⟩ : ∃ n, n = b'.length := ⟨_, rfl⟩
 rw [← hn'] at hlc' hlb'
 rw [← hn']
 have HN := Lib.hid hn'
 clear hn'
 go_enter Tryz.func22, Tryz.ntmps22
 by_cases hn : b.length = n'
 ·have HE := Lib.hid hn
  have e0 : ((b.length : Int) != (n' : Int)) = false := by simp [hn]
  clear hn
  go_wp2_with fail
  clear e0
  go_loopw [17] (fun i wr => ∃ k : Nat, i = .int .i64 k ∧ k ≤ b.length ∧ Hid (UpTo b b' k) ∧ Below w.heap.size w wr) (fun i _ => b.length - (intOf i).toNat)
  case atStart => exact ⟨0, rfl, by omega, (fun j _ _ h => by omega), Below.refl _ _⟩
  case round =>
   obtain ⟨k, rfl, hk, hu, hb⟩ := hrel
   by_cases hlt : k < b.length
   ·have hlt2 : k < b'.length := by rw [← HN.out, ← HE.out]; exact hlt
    have hlt' : (k : Int) < n' := by rw [HN.out]; omega
    obtain ⟨lg, lo, rfl, hSl, hgl⟩ := HL.out.base (by omega)
    obtain ⟨mg, mo, rfl, hSm, hgm⟩ := HL'.out.base (by omega)
    obtain ⟨es, _, hrx, hlx⟩ := HL.out.lies hlt
    obtain ⟨fs, _, hry, hly⟩ := HL'.out.lies hlt2
    obtain ⟨t, ht⟩ : ∃ t, t = b[k] := ⟨_, rfl⟩
    obtain ⟨t', ht'⟩ : ∃ t, t = b'[k] := ⟨_, rfl⟩
    rw [← ht] at hrx
    rw [← ht'] at hry
    have HST := Lib.hid (fun (e : t = t') => upto_step hu.out hlt hlt2 (by rw [← ht, ← ht', e]))
    have HNO := Lib.hid (fun (e : t ≠ t') => (show r = false by rw [HR.out, decide_eq_false_iff_not]; intro h; subst h; exact e (ht.trans ht'.symm)))
    obtain ⟨P2, p2, P3, p3, P4, p4, rfl, -, -, -⟩ := hrx.parts
    obtain ⟨Q2, q2, Q3, q3, Q4, q4, rfl, -, -, -⟩ := hry.parts
    have hc := hlx.keep (Keep.of_below hb) hSl
    have hd := hly.keep (Keep.of_below hb) hSm
    have HRx := Lib.hid hrx
    have HRy := Lib.hid hry
    have a0 : wr.cell? ⟨lg, lo + k * 5, none⟩ = some (.string t.name) := hc.at_ 0 rfl
    have a1 : wr.cell? ⟨lg, lo + k * 5 + 1, none⟩ = some (.bool t.enum) := hc.at_ 1 rfl
    have a2 : wr.cell? ⟨lg, lo + k * 5 + 2, none⟩ = some (.slice P2 t.fields.length p2) := hc.at_ 2 rfl
    have a3 : wr.cell? ⟨lg, lo + k * 5 + 3, none⟩ = some (.slice P3 t.gone.length p3) := hc.at_ 3 rfl
    have a4 : wr.cell? ⟨lg, lo + k * 5 + 4, none⟩ = some (.slice P4 t.items.length p4) := hc.at_ 4 rfl
    have b0 : wr.cell? ⟨mg, mo + k * 5, none⟩ = some (.string t'.name) := hd.at_ 0 rfl
    have b1 : wr.cell? ⟨mg, mo + k * 5 + 1, none⟩ = some (.bool t'.enum) := hd.at_ 1 rfl
    have b2 : wr.cell? ⟨mg, mo + k * 5 + 2, none⟩ = some (.slice Q2 t'.fields.length q2) := hd.at_ 2 rfl
    have b3 : wr.cell? ⟨mg, mo + k * 5 + 3, none⟩ = some (.slice Q3 t'.gone.length q3) := hd.at_ 3 rfl
    have b4 : wr.cell? ⟨mg, mo + k * 5 + 4, none⟩ = some (.slice Q4 t'.items.length q4) := hd.at_ 4 rfl
    have hlg : lg < wr.heap.size := Nat.lt_of_lt_of_le hgl hb.size
    have hmg : mg < wr.heap.size := Nat.lt_of_lt_of_le hgm hb.size
    clear hrx hry hlx hly ht ht' hc hd hu hlt2
    go_wp2_with fail
    have hw2 := (hb.alloc hb.size (.cells #[.string t.name, .bool t.enum, .slice P2 t.fields.length p2, .slice P3 t.gone.length p3, .slice P4 t.items.length p4] 38))
    have hw3 := hw2.alloc hw2.size (.cells #[.string t'.name, .bool t'.enum, .slice Q2 t'.fields.length q2, .slice Q3 t'.gone.length q3, .slice Q4 t'.items.length q4] 38)
    refine (sameC_gen S S' _ _ t t' _ (RType.fair.below HRx.out hw3) (RType.fair.below HRy.out hw3)).mono ?_
    rintro e w4 ⟨rfl, hb4⟩
    have hw4 := below_via hw3 hb4 hw3.size
    clear a0 a1 a2 a3 a4 b0 b1 b2 b3 b4 hlg hmg
    by_cases he : t = t'
    ·have HU := Lib.hid (HST.out he)
     have hd : decide (t = t') = true := by simpa using he
     rw [hd]
     clear hd he HST HNO
     go_wp2_with fail
     go_roundw
     case rel => exact ⟨k + 1, by go_num, by omega, HU, hw4⟩
     case measure => simp [intOf]; omega
    ·have hrf := HNO.out he
     subst hrf
     have hd : decide (t = t') = false := by simpa using he
     rw [hd]
     clear hd he HST HNO
     go_wp2_with fail
     go_ret
     exact ⟨rfl, hw4⟩
   ·have hrt : r = true := by
     rw [HR.out, decide_eq_true_eq]
     exact upto_all (HE.out.trans HN.out) (fun j a b h => hu.out j a b (by omega))
    subst hrt
    go_wp2_with fail
    go_ret
    exact ⟨rfl, hb⟩
 ·have hrf : r = false := by
   rw [HR.out, decide_eq_false_iff_not]
   intro h
   exact hn (by rw [h, HN.out])
  subst hrf
  have e0 : ((b.length : Int) != (n' : Int)) = true := by simp; omega
  clear hn
  go_wp2_with fail
  go_ret
  exact ⟨rfl, Below.here w⟩
theorem same_gen (S S' : Nat → Prop) (v v' : Value) (b b' : BookD) (w : World) (h1 : RSl 5 96 RType S w [v] b) (h2 : RSl 5 96 RType S' w [v'] b') : Calls Tryz.prog 9 #[.agg #[v], .agg #[v']] w (Ret w (.bool (decide (b = b')))) := by
 have H1 := Lib.hid h1
 have H2 := Lib.hid h2
 obtain ⟨z1, z2, hb⟩ := boxes2 w [v] [v'] 24 24
 have l1 := z1.lt
 have l2 := z2.lt
 have m1 := z1.cell 0
 have m2 := z2.cell 0
 simp only [List.getElem?_cons_zero] at m1 m2
 clear h1 h2
 go_enter Tryz.func9, Tryz.ntmps9
 go_wp2_with fail
 refine (eqFunc_gen S S' _ _ b b' _ ((RSl.fair RType.fair).below H1.out hb) ((RSl.fair RType.fair).below H2.out hb)).mono ?_
 rintro e w1 ⟨rfl, hb1⟩
 have hw1 := below_via hb hb1 hb.size
 clear m1 m2 l1 l2 z1 z2
 go_wp2_with fail
 go_ret
 exact ⟨rfl, hw1⟩
end Go.Proofs.YtihdnjnhhhafkaaGreatDoor
