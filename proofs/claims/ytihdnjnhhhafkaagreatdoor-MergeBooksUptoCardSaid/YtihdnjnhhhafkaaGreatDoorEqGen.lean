/- Lists held against others: slices.Equal at fields, items and numbers. (Printed by mkeqgen.py.) -/
import Derived.Test.YtihdnjnhhhafkaaGreatDoorMergeSame
set_option linter.all false
set_option maxRecDepth 100000
set_option maxHeartbeats 8000000
namespace Go.Proofs.YtihdnjnhhhafkaaGreatDoor
open Go.RowKit
theorem run_neq_field2 (p q : FieldD) (W : World) : (binOp .neq 43 (.agg #[.int .i64 p.id, .string p.name, .string p.type, .int .i64 p.kind, .int .i64 p.rule]) (.agg #[.int .i64 q.id, .string q.name, .string q.type, .int .i64 q.kind, .int .i64 q.rule])).run Tryz.prog W = .ok (.bool (!decide (p = q))) W := by
 obtain ⟨c, d, e, f, g⟩ := p
 obtain ⟨c', d', e', f', g'⟩ := q
 have h := run_equalIn_agg (P := Tryz.prog) W 9999 43 #[.int .i64 c, .string d, .string e, .int .i64 f, .int .i64 g] #[.int .i64 c', .string d', .string e', .int .i64 f', .int .i64 g'] field_fields field_held
 rw [run_neq_struct, h]
 simp [go_sem, toList_inj]
 by_cases h3 : c = c' <;> by_cases h4 : d = d' <;> by_cases h5 : e = e' <;> by_cases h6 : f = f' <;> by_cases h7 : g = g' <;> simp [h3, h4, h5, h6, h7]
theorem run_neq_item2 (p q : ItemD) (W : World) : (binOp .neq 62 (.agg #[.string p.name, .int .i64 p.n]) (.agg #[.string q.name, .int .i64 q.n])).run Tryz.prog W = .ok (.bool (!decide (p = q))) W := by
 obtain ⟨c, d⟩ := p
 obtain ⟨c', d'⟩ := q
 have h := run_equalIn_agg (P := Tryz.prog) W 9999 62 #[.string c, .int .i64 d] #[.string c', .int .i64 d'] item_fields item_held
 rw [run_neq_struct, h]
 simp [go_sem, toList_inj]
 by_cases h3 : c = c' <;> by_cases h4 : d = d' <;> simp [h3, h4]
def UpTo {α : Type} (l l' : List α) (k : Nat) : Prop := ∀ j (h : j < l.length) (h' : j < l'.length), j < k → l[j] = l'[j]
theorem upto_all {α : Type} {l l' : List α} (hl : l.length = l'.length) (h : UpTo l l' l.length) : l = l' :=
 List.ext_getElem hl fun j h1 h2 => h j h1 h2 h1
theorem upto_step {α : Type} {l l' : List α} {k : Nat} (h : UpTo l l' k) (h1 : k < l.length) (h2 : k < l'.length) (he : l[k] = l'[k]) : UpTo l l' (k + 1) := fun j a b hj => by
 rcases Nat.lt_or_ge j k with q | q
 ·exact h j a b q
 ·have : j = k := by omega
  subst this; exact he
theorem eqlF_gen (S S' : Nat → Prop) (v v' : Value) (l l' : List FieldD) (w : World) (hl : RSl 5 56 RField S w [v] l) (hl' : RSl 5 56 RField S' w [v'] l') : Calls Tryz.prog 25 #[v, v'] w (Ret w (.bool (decide (l = l')))) := by
 obtain ⟨A, cap, rfl, hlc, hlb⟩ := hl.form
 obtain ⟨A', cap', rfl, hlc', hlb'⟩ := hl'.form
 have HL := Lib.hid hl
 have HL' := Lib.hid hl'
 obtain ⟨r, hr0⟩ : ∃ r, r = decide (l = l') := ⟨_, rfl⟩
 rw [← hr0]
 have HR := Lib.hid hr0
 clear hl hl' hr0
 obtain ⟨n', hn'⟩ : ∃ n, n = l'.length := ⟨_, rfl⟩
 rw [← hn'] at hlc' hlb'
 rw [← hn']
 have HN := Lib.hid hn'
 clear hn'
 go_enter Tryz.func25, Tryz.ntmps25
 by_cases hn : l.length = n'
 ·have HE := Lib.hid hn
  have e0 : ((l.length : Int) != (n' : Int)) = false := by simp [hn]
  clear hn
  go_wp2_with fail
  clear e0
  go_loopw [13] (fun i wr => ∃ k : Nat, i = .int .i64 k ∧ k ≤ l.length ∧ Hid (UpTo l l' k) ∧ Below w.heap.size w wr) (fun i _ => l.length - (intOf i).toNat)
  case atStart => exact ⟨0, rfl, by omega, (fun j _ _ h => by omega), Below.refl _ _⟩
  case round =>
   obtain ⟨k, rfl, hk, hu, hb⟩ := hrel
   by_cases hlt : k < l.length
   ·have hlt2 : k < l'.length := by rw [← HN.out, ← HE.out]; exact hlt
    have hlt' : (k : Int) < n' := by rw [HN.out]; omega
    have HL2 := (RSl.fair RField.fair).below HL'.out hb
    obtain ⟨g, o, es, rfl, hS, hg, hes, hr, hc⟩ := ((RSl.fair RField.fair).below HL.out hb).at_ hlt
    obtain ⟨g', o', es', rfl, hS', hg', hes', hr', hc'⟩ := HL2.at_ hlt2
    obtain ⟨p, hpe⟩ : ∃ p, p = l[k] := ⟨_, rfl⟩
    obtain ⟨q, hqe⟩ : ∃ p, p = l'[k] := ⟨_, rfl⟩
    rw [← hpe] at hr
    rw [← hqe] at hr'
    have HST := Lib.hid (fun (e : p = q) => upto_step hu.out hlt hlt2 (by rw [← hpe, ← hqe, e]))
    have HNO := Lib.hid (fun (e : p ≠ q) => (show r = false by rw [HR.out, decide_eq_false_iff_not]; intro h; subst h; exact e (hpe.trans hqe.symm)))
    clear hpe hqe hu HL2
    have e1 : es = fieldCells p := hr
    have e2 : es' = fieldCells q := hr'
    subst e1 e2
    have c0 : wr.cell? ⟨g, o + k * 5, none⟩ = some (.int .i64 p.id) := hc.at_ 0 rfl
    have d0 : wr.cell? ⟨g', o' + k * 5, none⟩ = some (.int .i64 q.id) := hc'.at_ 0 rfl
    have c1 : wr.cell? ⟨g, o + k * 5 + 1, none⟩ = some (.string p.name) := hc.at_ 1 rfl
    have d1 : wr.cell? ⟨g', o' + k * 5 + 1, none⟩ = some (.string q.name) := hc'.at_ 1 rfl
    have c2 : wr.cell? ⟨g, o + k * 5 + 2, none⟩ = some (.string p.type) := hc.at_ 2 rfl
    have d2 : wr.cell? ⟨g', o' + k * 5 + 2, none⟩ = some (.string q.type) := hc'.at_ 2 rfl
    have c3 : wr.cell? ⟨g, o + k * 5 + 3, none⟩ = some (.int .i64 p.kind) := hc.at_ 3 rfl
    have d3 : wr.cell? ⟨g', o' + k * 5 + 3, none⟩ = some (.int .i64 q.kind) := hc'.at_ 3 rfl
    have c4 : wr.cell? ⟨g, o + k * 5 + 4, none⟩ = some (.int .i64 p.rule) := hc.at_ 4 rfl
    have d4 : wr.cell? ⟨g', o' + k * 5 + 4, none⟩ = some (.int .i64 q.rule) := hc'.at_ 4 rfl
    have hgd := field_guard
    have hneq := fun W => run_neq_field2 p q W
    clear hr hr' hc hc' hes hes' hg hg' hS hS' hlt2
    by_cases he : p = q
    ·have HU := Lib.hid (HST.out he)
     have hd : decide (p = q) = true := by simpa using he
     rw [hd] at hneq
     clear hd he HST HNO
     go_wp2_with fail
     go_quiet (fail)
     go_wp2_with fail
     go_roundw
     case rel => exact ⟨k + 1, by go_num, by omega, HU, below_drewN hb _⟩
     case measure => simp [intOf]; omega
    ·have hrf := HNO.out he
     subst hrf
     have hd : decide (p = q) = false := by simpa using he
     rw [hd] at hneq
     clear hd he HST HNO
     go_wp2_with fail
     go_quiet (fail)
     go_wp2_with fail
     go_ret
     exact ⟨rfl, below_drewN hb _⟩
   ·have hrt : r = true := by
     rw [HR.out, decide_eq_true_eq]
     exact upto_all (HE.out.trans HN.out) (fun j a b h => hu.out j a b (by omega))
    subst hrt
    go_wp2_with fail
    go_ret
    exact ⟨rfl, hb⟩
 ·have hrf : r = false := by
   rw [HR.out, decide_eq_false_iff_not]
   intro h
   exact hn (by rw [h, HN.out])
  subst hrf
  have e0 : ((l.length : Int) != (n' : Int)) = true := by simp; omega
  clear hn
  go_wp2_with fail
  go_ret
  exact ⟨rfl, Below.here w⟩
theorem eqlI_gen (S S' : Nat → Prop) (v v' : Value) (l l' : List ItemD) (w : World) (hl : RSl 2 24 RItem S w [v] l) (hl' : RSl 2 24 RItem S' w [v'] l') : Calls Tryz.prog 27 #[v, v'] w (Ret w (.bool (decide (l = l')))) := by
 obtain ⟨A, cap, rfl, hlc, hlb⟩ := hl.form
 obtain ⟨A', cap', rfl, hlc', hlb'⟩ := hl'.form
 have HL := Lib.hid hl
 have HL' := Lib.hid hl'
 obtain ⟨r, hr0⟩ : ∃ r, r = decide (l = l') := ⟨_, rfl⟩
 rw [← hr0]
 have HR := Lib.hid hr0
 clear hl hl' hr0
 obtain ⟨n', hn'⟩ : ∃ n, n = l'.length := ⟨_, rfl⟩
 rw [← hn'] at hlc' hlb'
 rw [← hn']
 have HN := Lib.hid hn'
 clear hn'
 go_enter Tryz.func27, Tryz.ntmps27
 by_cases hn : l.length = n'
 ·have HE := Lib.hid hn
  have e0 : ((l.length : Int) != (n' : Int)) = false := by simp [hn]
  clear hn
  go_wp2_with fail
  clear e0
  go_loopw [13] (fun i wr => ∃ k : Nat, i = .int .i64 k ∧ k ≤ l.length ∧ Hid (UpTo l l' k) ∧ Below w.heap.size w wr) (fun i _ => l.length - (intOf i).toNat)
  case atStart => exact ⟨0, rfl, by omega, (fun j _ _ h => by omega), Below.refl _ _⟩
  case round =>
   obtain ⟨k, rfl, hk, hu, hb⟩ := hrel
   by_cases hlt : k < l.length
   ·have hlt2 : k < l'.length := by rw [← HN.out, ← HE.out]; exact hlt
    have hlt' : (k : Int) < n' := by rw [HN.out]; omega
    have HL2 := (RSl.fair RItem.fair).below HL'.out hb
    obtain ⟨g, o, es, rfl, hS, hg, hes, hr, hc⟩ := ((RSl.fair RItem.fair).below HL.out hb).at_ hlt
    obtain ⟨g', o', es', rfl, hS', hg', hes', hr', hc'⟩ := HL2.at_ hlt2
    obtain ⟨p, hpe⟩ : ∃ p, p = l[k] := ⟨_, rfl⟩
    obtain ⟨q, hqe⟩ : ∃ p, p = l'[k] := ⟨_, rfl⟩
    rw [← hpe] at hr
    rw [← hqe] at hr'
    have HST := Lib.hid (fun (e : p = q) => upto_step hu.out hlt hlt2 (by rw [← hpe, ← hqe, e]))
    have HNO := Lib.hid (fun (e : p ≠ q) => (show r = false by rw [HR.out, decide_eq_false_iff_not]; intro h; subst h; exact e (hpe.trans hqe.symm)))
    clear hpe hqe hu HL2
    have e1 : es = itemCells p := hr
    have e2 : es' = itemCells q := hr'
    subst e1 e2
    have c0 : wr.cell? ⟨g, o + k * 2, none⟩ = some (.string p.name) := hc.at_ 0 rfl
    have d0 : wr.cell? ⟨g', o' + k * 2, none⟩ = some (.string q.name) := hc'.at_ 0 rfl
    have c1 : wr.cell? ⟨g, o + k * 2 + 1, none⟩ = some (.int .i64 p.n) := hc.at_ 1 rfl
    have d1 : wr.cell? ⟨g', o' + k * 2 + 1, none⟩ = some (.int .i64 q.n) := hc'.at_ 1 rfl
    have hgd := item_guard
    have hneq := fun W => run_neq_item2 p q W
    clear hr hr' hc hc' hes hes' hg hg' hS hS' hlt2
    by_cases he : p = q
    ·have HU := Lib.hid (HST.out he)
     have hd : decide (p = q) = true := by simpa using he
     rw [hd] at hneq
     clear hd he HST HNO
     go_wp2_with fail
     go_quiet (fail)
     go_wp2_with fail
     go_roundw
     case rel => exact ⟨k + 1, by go_num, by omega, HU, below_drewN hb _⟩
     case measure => simp [intOf]; omega
    ·have hrf := HNO.out he
     subst hrf
     have hd : decide (p = q) = false := by simpa using he
     rw [hd] at hneq
     clear hd he HST HNO
     go_wp2_with fail
     go_quiet (fail)
     go_wp2_with fail
     go_ret
     exact ⟨rfl, below_drewN hb _⟩
   ·have hrt : r = true := by
     rw [HR.out, decide_eq_true_eq]
     exact upto_all (HE.out.trans HN.out) (fun j a b h => hu.out j a b (by omega))
    subst hrt
    go_wp2_with fail
    go_ret
    exact ⟨rfl, hb⟩
 ·have hrf : r = false := by
   rw [HR.out, decide_eq_false_iff_not]
   intro h
   exact hn (by rw [h, HN.out])
  subst hrf
  have e0 : ((l.length : Int) != (n' : Int)) = true := by simp; omega
  clear hn
  go_wp2_with fail
  go_ret
  exact ⟨rfl, Below.here w⟩
theorem eqlG_gen (S S' : Nat → Prop) (v v' : Value) (l l' : List Int) (w : World) (hl : RSl 1 8 RInt S w [v] l) (hl' : RSl 1 8 RInt S' w [v'] l') : Calls Tryz.prog 26 #[v, v'] w (Ret w (.bool (decide (l = l')))) := by
 obtain ⟨A, cap, rfl, hlc, hlb⟩ := hl.form
 obtain ⟨A', cap', rfl, hlc', hlb'⟩ := hl'.form
 have HL := Lib.hid hl
 have HL' := Lib.hid hl'
 obtain ⟨r, hr0⟩ : ∃ r, r = decide (l = l') := ⟨_, rfl⟩
 rw [← hr0]
 have HR := Lib.hid hr0
 clear hl hl' hr0
 obtain ⟨n', hn'⟩ : ∃ n, n = l'.length := ⟨_, rfl⟩
 rw [← hn'] at hlc' hlb'
 rw [← hn']
 have HN := Lib.hid hn'
 clear hn'
 go_enter Tryz.func26, Tryz.ntmps26
 by_cases hn : l.length = n'
 ·have HE := Lib.hid hn
  have e0 : ((l.length : Int) != (n' : Int)) = false := by simp [hn]
  clear hn
  go_wp2_with fail
  clear e0
  go_loopw [13] (fun i wr => ∃ k : Nat, i = .int .i64 k ∧ k ≤ l.length ∧ Hid (UpTo l l' k) ∧ Below w.heap.size w wr) (fun i _ => l.length - (intOf i).toNat)
  case atStart => exact ⟨0, rfl, by omega, (fun j _ _ h => by omega), Below.refl _ _⟩
  case round =>
   obtain ⟨k, rfl, hk, hu, hb⟩ := hrel
   by_cases hlt : k < l.length
   ·have hlt2 : k < l'.length := by rw [← HN.out, ← HE.out]; exact hlt
    have hlt' : (k : Int) < n' := by rw [HN.out]; omega
    have HL2 := (RSl.fair RInt.fair).below HL'.out hb
    obtain ⟨g, o, es, rfl, hS, hg, hes, hr, hc⟩ := ((RSl.fair RInt.fair).below HL.out hb).at_ hlt
    obtain ⟨g', o', es', rfl, hS', hg', hes', hr', hc'⟩ := HL2.at_ hlt2
    obtain ⟨p, hpe⟩ : ∃ p, p = l[k] := ⟨_, rfl⟩
    obtain ⟨q, hqe⟩ : ∃ p, p = l'[k] := ⟨_, rfl⟩
    rw [← hpe] at hr
    rw [← hqe] at hr'
    have HST := Lib.hid (fun (e : p = q) => upto_step hu.out hlt hlt2 (by rw [← hpe, ← hqe, e]))
    have HNO := Lib.hid (fun (e : p ≠ q) => (show r = false by rw [HR.out, decide_eq_false_iff_not]; intro h; subst h; exact e (hpe.trans hqe.symm)))
    clear hpe hqe hu HL2
    have e1 : es = [.int .i64 p] := hr
    have e2 : es' = [.int .i64 q] := hr'
    subst e1 e2
    have c0 : wr.cell? ⟨g, o + k, none⟩ = some (.int .i64 p) := by have := hc.at_ 0 rfl; simpa using this
    have d0 : wr.cell? ⟨g', o' + k, none⟩ = some (.int .i64 q) := by have := hc'.at_ 0 rfl; simpa using this
    clear hr hr' hc hc' hes hes' hg hg' hS hS' hlt2
    by_cases he : p = q
    ·have HU := Lib.hid (HST.out he)
     have hd : (p != q) = false := by simpa using he
     clear he HST HNO
     go_wp2_with fail
     go_quiet (fail)
     go_wp2_with fail
     go_roundw
     case rel => exact ⟨k + 1, by go_num, by omega, HU, below_drewN hb _⟩
     case measure => simp [intOf]; omega
    ·have hrf := HNO.out he
     subst hrf
     have hd : (p != q) = true := by simpa using he
     clear he HST HNO
     go_wp2_with fail
     go_quiet (fail)
     go_wp2_with fail
     go_ret
     exact ⟨rfl, below_drewN hb _⟩
   ·have hrt : r = true := by
     rw [HR.out, decide_eq_true_eq]
     exact upto_all (HE.out.trans HN.out) (fun j a b h => hu.out j a b (by omega))
    subst hrt
    go_wp2_with fail
    go_ret
    exact ⟨rfl, hb⟩
 ·have hrf : r = false := by
   rw [HR.out, decide_eq_false_iff_not]
   intro h
   exact hn (by rw [h, HN.out])
  subst hrf
  have e0 : ((l.length : Int) != (n' : Int)) = true := by simp; omega
  clear hn
  go_wp2_with fail
  go_ret
  exact ⟨rfl, Below.here w⟩
end Go.Proofs.YtihdnjnhhhafkaaGreatDoor
