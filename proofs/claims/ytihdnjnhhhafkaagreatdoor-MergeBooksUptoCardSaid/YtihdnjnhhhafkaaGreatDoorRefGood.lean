/- The walk of the document's own GoodBook. -/
import Derived.Test.YtihdnjnhhhafkaaGreatDoorRefGoodM
import Derived.Test.YtihdnjnhhhafkaaGreatDoorRefL
import Derived.Test.YtihdnjnhhhafkaaGreatDoorBookGood
set_option linter.all false
set_option maxRecDepth 100000
set_option maxHeartbeats 8000000
namespace Go.Proofs.YtihdnjnhhhafkaaGreatDoor
open Go.RowKit
def BookSmall (b : BookD) : Prop := ∀ t ∈ b, t.items.length ≤ 1048576
def goodT (b : BookD) (t : TypeD) : Bool := if t.enum = true then enumF t else messageF b t
theorem goodT_any (S : Nat → Prop) (vb : Value) (b : BookD) (cs : List Value) (t : TypeD) (w : World) (hb0 : RSl 5 96 RType S w [vb] b) (ht : RType S w cs t) (hM : MaxL w) (hf : ∀ x ∈ t.fields, SizeOk x.name) (hi : ∀ x ∈ t.items, SizeOk x.name) (hil : t.items.length ≤ 1048576) :
  Calls Tryz.prog 40 #[.agg #[vb], .agg cs.toArray] w (Ret w (.bool (goodT b t))) := by
 unfold goodT
 cases he : t.enum with
 | true => exact goodE_any S vb b cs t w hb0 ht hM hi hil he
 | false => exact goodM_any S vb b cs t w hb0 ht hM hf he
theorem typeAt_goodT {b : BookD} {i : Nat} {h : i < b.length} (ht : TypeAt b i h) : goodT b b[i] = true := by
 have := ht.2.2
 unfold goodT
 split at this
 ·rename_i he; rw [if_pos he]; exact this
 ·rename_i he; rw [if_neg he]; exact this
theorem typeAt_of {b : BookD} {i : Nat} {h : i < b.length} (h1 : namedF b[i].name = true) (h2 : ∀ (_ : 0 < i), ltS b[i - 1].name b[i].name) (h3 : goodT b b[i] = true) : TypeAt b i h := by
 refine ⟨h1, h2, ?_⟩
 unfold goodT at h3
 split
 ·rename_i he; rw [if_pos he] at h3; exact h3
 ·rename_i he; rw [if_neg he] at h3; exact h3
theorem lt_nil {x : ByteArray} (h : namedF x = true) : Op.bytesLess (⟨#[]⟩ : ByteArray).toList x.toList = true := by
 have h1 := (named_size h).1
 rw [ByteArray.toList_eq, ByteArray.toList_eq]
 cases hl : x.data.toList with
 | nil => exact absurd (show x.size = 0 from congrArg List.length hl) (by omega)
 | cons c l => rfl
theorem lessR : ∀ (x y : List UInt8), Op.bytesLess x y = decide (x < y)
 | [], [] => by simp [Op.bytesLess]
 | _ :: _, [] => by simp [Op.bytesLess]
 | [], _ :: _ => by simp [Op.bytesLess]
 | a :: x, b :: y => by
  rw [Op.bytesLess, lessR x y]
  simp only [List.cons_lt_cons_iff]
  by_cases h1 : a < b <;> by_cases h2 : a = b <;> by_cases h3 : x < y <;> simp [h1, h2, h3]
theorem ltS_lt (a b : ByteArray) : ltS a b ↔ bytes a < bytes b := by
 unfold ltS
 rw [lessR, ByteArray.toList_eq, ByteArray.toList_eq, decide_eq_true_iff]
theorem ltS_trans {a b c : ByteArray} (h : ltS a b) (h' : ltS b c) : ltS a c := (ltS_lt _ _).2 (List.lt_trans ((ltS_lt _ _).1 h) ((ltS_lt _ _).1 h'))
theorem ltS_irrefl (a : ByteArray) : ¬ ltS a a := fun h => List.lt_irrefl _ ((ltS_lt _ _).1 h)
theorem less_tri : ∀ (x y : List UInt8), Op.bytesLess x y = true ∨ x = y ∨ Op.bytesLess y x = true
 | [], [] => .inr (.inl rfl)
 | _ :: _, [] => .inr (.inr rfl)
 | [], _ :: _ => .inl rfl
 | a :: x, b :: y => by
  rw [Op.bytesLess, Op.bytesLess]
  by_cases h1 : a < b
  ·exact .inl (by simp [h1])
  ·by_cases h2 : b < a
   ·exact .inr (.inr (by simp [h2]))
   ·have : a = b := by
     rw [UInt8.lt_iff_toNat_lt] at h1 h2
     exact UInt8.toNat_inj.1 (by omega)
    subst this
    rcases less_tri x y with h | h | h
    ·exact .inl (by simp [h])
    ·exact .inr (.inl (by rw [h]))
    ·exact .inr (.inr (by simp [h]))
theorem leq_no {y n : ByteArray} (h : ltS y n) : Op.bytesLess n.toList y.toList = false ∧ (n.toList == y.toList) = false := by
 constructor
 ·cases he : Op.bytesLess n.toList y.toList with
  | false => rfl
  | true => exact absurd (ltS_trans h he) (ltS_irrefl _)
 ·rw [ba_eq, decide_eq_false_iff_not]
  rintro rfl
  exact ltS_irrefl _ h
theorem leq_yes {y n : ByteArray} (h : ¬ ltS y n) : Op.bytesLess n.toList y.toList = true ∨ (Op.bytesLess n.toList y.toList = false ∧ n = y) := by
 rcases less_tri n.toList y.toList with h1 | h1 | h1
 ·exact .inl h1
 ·have : n = y := by
   have h2 : (n.toList == y.toList) = true := by rw [h1]; exact beq_self_eq_true _
   rw [ba_eq] at h2
   simpa using h2
  subst this
  cases he : Op.bytesLess n.toList n.toList with
  | false => exact .inr ⟨rfl, rfl⟩
  | true => exact absurd he (ltS_irrefl _)
 ·exact absurd h1 h
theorem good_sorted {b : BookD} (h : ∀ i (h : i < b.length), TypeAt b i h) (i : Nat) : ∀ (d : Nat) (hj : i + d + 1 < b.length), ltS (b[i]'(by omega)).name b[i + d + 1].name
 | 0, hj => (h (i + 1) hj).2.1 (by omega)
 | d + 1, hj => ltS_trans (good_sorted h i d (by omega)) ((h (i + (d + 1) + 1) hj).2.1 (by omega))
theorem good_distinct {b : BookD} (h : ∀ i (h : i < b.length), TypeAt b i h) : ∀ i j (hj : j < b.length) (hij : i < j), b[i].name ≠ b[j].name := by
 intro i j hj hij e
 have := good_sorted h i (j - i - 1) (by omega)
 have e2 : i + (j - i - 1) + 1 = j := by omega
 simp only [e2] at this
 rw [e] at this
 exact ltS_irrefl _ this
theorem good_few {b : BookD} (h : ∀ i (h : i < b.length), TypeAt b i h) : ∀ t ∈ b, t.fields.length ≤ 5 := by
 intro t ht
 obtain ⟨i, hi, rfl⟩ := List.getElem_of_mem ht
 have := (h i hi).2.2
 split at this
 ·have h2 := of_decide_eq_true this
  rw [h2.2.2.2.1]; omega
 ·exact (of_decide_eq_true this).1
theorem goodR_any (S : Nat → Prop) (vb : Value) (b : BookD) (w : World) (hb0 : RSl 5 96 RType S w [vb] b) (hM : MaxL w) (hsz : BookOk b) (hsm : BookSmall b) :
  Calls Tryz.prog 16 #[.agg #[vb]] w (Ret w (.int .i64 (goodF b))) := by
 obtain ⟨A, cap, rfl, hlc, hlb⟩ := hb0.form
 have HB := Lib.hid hb0
 have HM := Lib.hid hM
 have HSZ := Lib.hid hsz
 have HSM := Lib.hid hsm
 obtain ⟨r, hr⟩ : ∃ r, r = goodF b := ⟨_, rfl⟩
 rw [← hr]
 have Hr := Lib.hid hr
 obtain ⟨x1, x3⟩ := boxes1 w [.slice A b.length cap] 24
 have X1 := Lib.hid x1
 have X3 := Lib.hid x3
 clear hb0 hM hsz hsm hr x1 x3
 go_enter Tryz.func16, Tryz.ntmps16
 by_cases h1 : b.length ≤ 4
 ·have e0 : decide ((b.length : Int) > 4) = false := by simp; omega
  have H1 := Lib.hid h1
  go_wp2_with fail
  clear e0
  go_loopw [3, 16] (fun l i wr => ∃ (k : Nat) (y : ByteArray), l = .string y ∧ i = .int .i64 k ∧ k ≤ b.length ∧ Hid (∀ j (h : j < b.length), j < k → TypeAt b j h) ∧ Hid ((k = 0 → y = ⟨#[]⟩) ∧ ∀ (h : 0 < k) (h' : k - 1 < b.length), y = b[k - 1].name) ∧ Box wr w.heap.size 24 [.slice A b.length cap] ∧ Below w.heap.size w wr) (fun _ i _ => b.length - (intOf i).toNat)
  case atStart => exact ⟨0, ⟨#[]⟩, rfl, rfl, by omega, (fun j _ hj => absurd hj (by omega) : ∀ j (h : j < b.length), j < 0 → TypeAt b j h), (show _ ∧ _ from ⟨fun _ => rfl, fun h => absurd h (by omega)⟩), X1.out, X3.out⟩
  case round =>
   obtain ⟨k, y, rfl, rfl, hk, he, hy, hbk, hb⟩ := hrel
   by_cases hlt : k < b.length
   ·obtain ⟨g, o, es, rfl, hS, hg, hes, hr, hc0⟩ := HB.out.at_ hlt
    have hc := hc0.keep (Keep.of_below hb) hS
    have hgw : g < wr.heap.size := Nat.lt_of_lt_of_le hg hb.size
    have hno0 : ¬ TypeAt b k hlt → r = 1 := fun h => by rw [Hr.out]; exact good_no2 H1.out hlt h
    have hok0 : namedF b[k].name = true → ltS y b[k].name → goodT b b[k] = true → TypeAt b k hlt := fun h1 h2 h3 => typeAt_of h1 (fun h => by rw [← hy.out.2 h (by omega)]; exact h2) h3
    have hbad0 : ¬ (namedF b[k].name = true ∧ ltS y b[k].name ∧ goodT b b[k] = true) → r = 1 := fun h => hno0 fun ht => h ⟨ht.1, by
     by_cases hk0 : 0 < k
     ·rw [hy.out.2 hk0 (by omega)]; exact ht.2.1 hk0
     ·rw [hy.out.1 (by omega)]; exact lt_nil ht.1, typeAt_goodT ht⟩
    have hxs := HSZ.out b[k] (List.getElem_mem hlt)
    have hxm := HSM.out b[k] (List.getElem_mem hlt)
    have hfin : ∀ (h : TypeAt b k hlt), Hid (∀ j (h : j < b.length), j < k + 1 → TypeAt b j h) := fun h => step_hid he.out hlt h
    obtain ⟨t, hxe⟩ : ∃ x, x = b[k] := ⟨_, rfl⟩
    have hyk : Hid ((k + 1 = 0 → t.name = ⟨#[]⟩) ∧ ∀ (h : 0 < k + 1) (h' : k + 1 - 1 < b.length), t.name = b[k + 1 - 1].name) := ⟨fun h => absurd h (by omega), fun _ _ => by rw [hxe]; rfl⟩
    rw [← hxe] at hr hok0 hbad0 hxs hxm
    obtain ⟨A1, k1, A2, k2, A3, k3, rfl, hrf, hrg, hri⟩ := hr.parts
    have q0 : wr.cell? ⟨g, o + k * 5, none⟩ = some (.string t.name) := hc.at_ 0 rfl
    have q1 : wr.cell? ⟨g, o + k * 5 + 1, none⟩ = some (.bool t.enum) := hc.at_ 1 rfl
    have q2 : wr.cell? ⟨g, o + k * 5 + 2, none⟩ = some (.slice A1 t.fields.length k1) := hc.at_ 2 rfl
    have q3 : wr.cell? ⟨g, o + k * 5 + 3, none⟩ = some (.slice A2 t.gone.length k2) := hc.at_ 3 rfl
    have q4 : wr.cell? ⟨g, o + k * 5 + 4, none⟩ = some (.slice A3 t.items.length k3) := hc.at_ 4 rfl
    have HR := Lib.hid hr
    have hns : t.name.size ≤ 140737488351232 := hxs.1
    have Hxs := Lib.hid hxs
    have Hok := Lib.hid hok0
    have Hbad := Lib.hid hbad0
    have Hfin := Lib.hid hfin
    have Hyk := Lib.hid hyk
    have Hxm := Lib.hid hxm
    clear hc hc0 hes hxe hr hrf hrg hri hxs hno0 hok0 hbad0 hfin hyk hxm hy he
    have hwa := hb.alloc hb.size (.cells #[.string t.name, .bool t.enum, .slice A1 t.fields.length k1, .slice A2 t.gone.length k2, .slice A3 t.items.length k3] 38)
    have hbkn := hbk.alloc (.cells #[.string t.name, .bool t.enum, .slice A1 t.fields.length k1, .slice A2 t.gone.length k2, .slice A3 t.items.length k3] 38)
    have HMn := Lib.hid (HM.out.below hwa)
    have zb : Box (wr.alloc (.cells #[.string t.name, .bool t.enum, .slice A1 t.fields.length k1, .slice A2 t.gone.length k2, .slice A3 t.items.length k3] 38)) wr.heap.size 38 [.string t.name, .bool t.enum, .slice A1 t.fields.length k1, .slice A2 t.gone.length k2, .slice A3 t.items.length k3] := Box.new wr _ _
    go_wp2_with fail
    refine (isName_any t.name _ (by omega) HMn.out).mono ?_
    rintro e w2 ⟨rfl, hb2⟩
    have hw2 := below_via hwa hb2 hwa.size
    have zb2 := zb.below hb2 zb.lt
    have hbk2 := hbkn.below hb2 hbkn.lt
    have d0 := zb2.cell 0
    have d1 := zb2.cell 1
    have d2 := zb2.cell 2
    have d3 := zb2.cell 3
    have d4 := zb2.cell 4
    have ld := zb2.lt
    have b0 := hbk2.cell 0
    have bl := hbk2.lt
    simp only [List.getElem?_cons_zero, List.getElem?_cons_succ] at d0 d1 d2 d3 d4 b0
    have HMq := Lib.hid (HM.out.below hw2)
    clear zb hb2 q0 q1 q2 q3 q4 hbkn hwa HMn
    by_cases hnm : namedF t.name = true
    ·rw [hnm]
     by_cases hyx : ltS y t.name
     ·obtain ⟨e4, e5⟩ := leq_no hyx
      have hRT := Lib.hid (RType.fair.keep HR.out (Keep.of_below hw2))
      have hRB := Lib.hid ((RSl.fair RType.fair).below HB.out hw2)
      have Hok2 := Lib.hid (Hok.out hnm hyx)
      have Hbad2 := Lib.hid (fun h : goodT b t ≠ true => Hbad.out (fun hh => h hh.2.2))
      clear hnm hyx Hok Hbad
      go_wp2_with fail
      refine (goodT_any S _ b _ t _ hRB.out hRT.out HMq.out (fun x hx => (Hxs.out.2.1 x hx).1) Hxs.out.2.2 Hxm.out).mono ?_
      rintro e w3 ⟨rfl, hb3⟩
      have hw3 := below_via hw2 hb3 hw2.size
      have hbk3 := hbk2.below hb3 hbk2.lt
      clear d0 d1 d2 d3 d4 b0
      cases hef : goodT b t with
      | true =>
       have Hf := Lib.hid (Hfin.out (Hok2.out hef))
       clear hef
       go_wp2_with fail
       go_roundw
       case rel => exact ⟨k + 1, _, rfl, by go_num, by omega, Hf.out, Hyk.out, hbk3, hw3⟩
       case measure => simp [intOf]; omega
      | false =>
       have Hno := Lib.hid (Hbad2.out (by rw [hef]; decide))
       clear hef
       go_wp2_with fail
       all_goals first
        | ((go_ret; exact ⟨by first | (rw [Hno.out]; done) | (rw [Hno.out]; rfl), hw3⟩))
        | (exfalso; omega)
     ·have Hno := Lib.hid (Hbad.out (fun h => hyx h.2.1))
      rcases leq_yes hyx with e4 | ⟨e4, e5⟩
      ·clear hnm hyx
       go_wp2_with fail
       all_goals first
        | ((go_ret; exact ⟨by first | (rw [Hno.out]; done) | (rw [Hno.out]; rfl), hw2⟩))
        | (exfalso; omega)
      ·clear hnm hyx
       subst e5
       go_wp2_with fail
       all_goals first
        | ((go_ret; exact ⟨by first | (rw [Hno.out]; done) | (rw [Hno.out]; rfl), hw2⟩))
        | (exfalso; omega)
    ·have Hno := Lib.hid (Hbad.out (fun h => hnm h.1))
     have hnf : namedF t.name = false := by simpa using hnm
     rw [hnf]
     clear hnm
     go_wp2_with fail
     all_goals first
      | ((go_ret; exact ⟨by first | (rw [Hno.out]; done) | (rw [Hno.out]; rfl), hw2⟩))
      | (exfalso; omega)
   ·have HT := Lib.hid (fun j (h : j < b.length) => he.out j h (by omega))
    have s0 := hbk.cell 0
    have sl := hbk.lt
    simp only [List.getElem?_cons_zero] at s0
    clear he hy
    go_wp2_with fail
    clear s0 sl
    go_loopw [40] (fun i wr => ∃ k : Nat, i = .int .i64 k ∧ k ≤ b.length ∧ Hid (∀ j (h : j < b.length), j < k → LeastAt b j h) ∧ Box wr w.heap.size 24 [.slice A b.length cap] ∧ Below w.heap.size w wr) (fun i _ => b.length - (intOf i).toNat)
    case atStart => exact ⟨0, rfl, by omega, (fun j _ hj => absurd hj (by omega) : ∀ j (h : j < b.length), j < 0 → LeastAt b j h), hbk, hb⟩
    case round =>
     clear hbk hb hlt hk
     obtain ⟨k, rfl, hk, He, hbk, hb⟩ := hrel
     by_cases hlt : k < b.length
     ·obtain ⟨g, o, es, rfl, hS, hg, hes, hr, hc0⟩ := HB.out.at_ hlt
      have hc := hc0.keep (Keep.of_below hb) hS
      have hgw : g < wr.heap.size := Nat.lt_of_lt_of_le hg hb.size
      have hno0 : ¬ LeastAt b k hlt → r = 7 := fun h => by rw [Hr.out]; exact good_no3 H1.out HT.out hlt h
      unfold LeastAt at hno0
      have hxs := HSZ.out b[k] (List.getElem_mem hlt)
      have hfin : ∀ (h : LeastAt b k hlt), Hid (∀ j (h : j < b.length), j < k + 1 → LeastAt b j h) := fun h => step_hid He.out hlt h
      unfold LeastAt at hfin
      obtain ⟨t, hxe⟩ : ∃ x, x = b[k] := ⟨_, rfl⟩
      rw [← hxe] at hr hno0 hxs hfin
      obtain ⟨A1, k1, A2, k2, A3, k3, rfl, hrf, hrg, hri⟩ := hr.parts
      have q0 : wr.cell? ⟨g, o + k * 5, none⟩ = some (.string t.name) := hc.at_ 0 rfl
      have q1 : wr.cell? ⟨g, o + k * 5 + 1, none⟩ = some (.bool t.enum) := hc.at_ 1 rfl
      have q2 : wr.cell? ⟨g, o + k * 5 + 2, none⟩ = some (.slice A1 t.fields.length k1) := hc.at_ 2 rfl
      have q3 : wr.cell? ⟨g, o + k * 5 + 3, none⟩ = some (.slice A2 t.gone.length k2) := hc.at_ 3 rfl
      have q4 : wr.cell? ⟨g, o + k * 5 + 4, none⟩ = some (.slice A3 t.items.length k3) := hc.at_ 4 rfl
      have hns : t.name.size ≤ 140737488351232 := hxs.1
      have Hno0 := Lib.hid hno0
      have Hfin := Lib.hid hfin
      clear hc hc0 hes hxe hr hrf hrg hri hxs hno0 hfin He
      have hwa := hb.alloc hb.size (.cells #[.string t.name, .bool t.enum, .slice A1 t.fields.length k1, .slice A2 t.gone.length k2, .slice A3 t.items.length k3] 38)
      have hbkn := hbk.alloc (.cells #[.string t.name, .bool t.enum, .slice A1 t.fields.length k1, .slice A2 t.gone.length k2, .slice A3 t.items.length k3] 38)
      have b0 := hbkn.cell 0
      have bl := hbkn.lt
      simp only [List.getElem?_cons_zero] at b0
      obtain ⟨tn, ten, tf, tg, ti⟩ := t
      dsimp only at *
      cases ten with
      | true =>
       have Hf := Lib.hid (Hfin.out (fun h => by cases h))
       go_wp2_with fail
       go_roundw
       case rel => exact ⟨k + 1, by go_num, by omega, Hf.out, hbkn, hwa⟩
       case measure => simp [intOf]; omega
      | false =>
       have hRB := Lib.hid ((RSl.fair RType.fair).below HB.out hwa)
       go_wp2_with fail
       refine (leastIn_any S _ b tn _ hRB.out (fun t ht => ⟨(HSZ.out t ht).1, fun f hf => ((HSZ.out t ht).2.1 f hf).2⟩) (Nat.le_trans hns (by decide))).mono ?_
       rintro e w3 ⟨rfl, hb3⟩
       have hw3 := below_via hwa hb3 hwa.size
       have hbk3 := hbkn.below hb3 hbkn.lt
       clear q0 q1 q2 q3 q4 b0
       obtain ⟨m, hm⟩ : ∃ m, m = leastF b 4 tn := ⟨_, rfl⟩
       rw [← hm]
       rw [← hm] at Hno0 Hfin
       clear hm
       by_cases hm0 : m = 0
       ·have Hno := Lib.hid (Hno0.out (fun h => by have := (h (by simp)).1; omega))
        subst hm0
        go_wp2_with fail
        all_goals first
         | ((go_ret; exact ⟨by first | (rw [Hno.out]; done) | (rw [Hno.out]; rfl), hw3⟩))
         | (exfalso; omega)
       ·have f0 : ((m : Int) == 0) = false := by simpa using hm0
        by_cases hm12 : 12 < m
        ·have Hno := Lib.hid (Hno0.out (fun h => by have := (h (by simp)).2; omega))
         have f1 : decide ((m : Int) > 12) = true := by simp; omega
         go_wp2_with fail
         all_goals first
          | ((go_ret; exact ⟨by first | (rw [Hno.out]; done) | (rw [Hno.out]; rfl), hw3⟩))
          | (exfalso; omega)
        ·have f1 : decide ((m : Int) > 12) = false := by simp; omega
         have Hf := Lib.hid (Hfin.out (fun _ => ⟨by omega, by omega⟩))
         go_wp2_with fail
         go_roundw
         case rel => exact ⟨k + 1, by go_num, by omega, Hf.out, hbk3, hw3⟩
         case measure => simp [intOf]; omega
     ·have Hyes := Lib.hid (Hr.out.trans (good_yes H1.out HT.out (fun j h => He.out j h (by omega))))
      clear He
      go_wp2_with fail
      go_ret
      exact ⟨by first | (rw [Hyes.out]; done) | (rw [Hyes.out]; rfl), hb⟩
 ·have Hno := Lib.hid (Hr.out.trans (good_no1 h1))
  have e0 : decide ((b.length : Int) > 4) = true := by simp; omega
  go_wp2_with fail
  all_goals first
   | ((go_ret; exact ⟨by first | (rw [Hno.out]; done) | (rw [Hno.out]; rfl), X3.out⟩))
   | (exfalso; omega)
end Go.Proofs.YtihdnjnhhhafkaaGreatDoor
