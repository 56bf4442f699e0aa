/- The walks of the document's own SameType and SameBook, at any two: they tell whether the two are alike. (Printed by mkrefeq.py.) -/
import Derived.Test.YtihdnjnhhhafkaaGreatDoorRefSameB
import Derived.Test.YtihdnjnhhhafkaaGreatDoorEqGen
set_option linter.all false
set_option maxRecDepth 100000
set_option maxHeartbeats 8000000
namespace Go.Proofs.YtihdnjnhhhafkaaGreatDoor
open Go.RowKit
theorem sameType_genR (S S' : Nat → Prop) (cs cs' : List Value) (t t' : TypeD) (w : World) (ht : RType S w cs t) (ht' : RType S' w cs' t') : Calls Tryz.prog 21 #[.agg cs.toArray, .agg cs'.toArray] w (Ret w (.bool (decide (t = t')))) := by
 obtain ⟨P2, p2, P3, p3, P4, p4, rfl, hF, hG, hI⟩ := ht.parts
 obtain ⟨Q2, q2, Q3, q3, Q4, q4, rfl, hF', hG', hI'⟩ := ht'.parts
 obtain ⟨tn, te, F, G, I⟩ := t
 obtain ⟨tn', te', F', G', I'⟩ := t'
 dsimp only at *
 obtain ⟨_, _, hff, hfc, hfb⟩ := hF.form
 obtain ⟨_, _, hgg, hgc, hgb⟩ := hG.form
 obtain ⟨_, _, hii, hic, hib⟩ := hI.form
 have HF := Lib.hid hF
 have HF' := Lib.hid hF'
 have HG := Lib.hid hG
 have HG' := Lib.hid hG'
 have HI := Lib.hid hI
 have HI' := Lib.hid hI'
 obtain ⟨r, hr⟩ : ∃ r, r = decide ((⟨tn, te, F, G, I⟩ : TypeD) = ⟨tn', te', F', G', I'⟩) := ⟨_, rfl⟩
 rw [← hr]
 have HR := Lib.hid (show r = true ↔ tn = tn' ∧ te = te' ∧ F = F' ∧ G = G' ∧ I = I' by rw [hr, decide_eq_true_eq]; simp)
 obtain ⟨z1, z2, hb⟩ := boxes2 w [.string tn, .bool te, .slice P2 F.length p2, .slice P3 G.length p3, .slice P4 I.length p4] [.string tn', .bool te', .slice Q2 F'.length q2, .slice Q3 G'.length q3, .slice Q4 I'.length q4] 38 38
 obtain ⟨nF, hnF⟩ : ∃ n, n = F'.length := ⟨_, rfl⟩
 obtain ⟨nG, hnG⟩ : ∃ n, n = G'.length := ⟨_, rfl⟩
 obtain ⟨nI, hnI⟩ : ∃ n, n = I'.length := ⟨_, rfl⟩
 rw [← hnF, ← hnG, ← hnI] at z1 z2 hb
 rw [← hnF, ← hnG, ← hnI]
 have HnF := Lib.hid hnF
 have HnG := Lib.hid hnG
 have HnI := Lib.hid hnI
 clear ht ht' hF hF' hG hG' hI hI' hff hgg hii hfc hgc hic hr hnF hnG hnI
 go_enter Tryz.func21, Tryz.ntmps21
 by_cases e1 : tn = tn'
 case neg =>
  have hrf : r = false := by cases r; rfl; exact absurd (HR.out.1 rfl).1 e1
  subst hrf
  have b1 : (tn.toList == tn'.toList) = false := by rw [ba_eq]; simpa using e1
  clear e1 z1 z2
  go_wp2_with fail
  go_ret
  exact ⟨rfl, hb⟩
 subst e1
 have b1 : (tn.toList == tn.toList) = true := by rw [ba_eq]; simp
 by_cases e2 : te = te'
 case neg =>
  have hrf : r = false := by cases r; rfl; exact absurd (HR.out.1 rfl).2.1 e2
  subst hrf
  have b2 : (te == te') = false := by simpa using e2
  have b3 : (te != te') = true := by simpa using e2
  clear e2 z1 z2
  go_wp2_with fail
  go_ret
  exact ⟨rfl, hb⟩
 subst e2
 have b2 : (te == te) = true := by simp
 have b3 : (te != te) = false := by simp
 by_cases e3 : F.length = nF
 case neg =>
  have hrf : r = false := by cases r; rfl; exact absurd (by rw [(HR.out.1 rfl).2.2.1, HnF.out]) e3
  subst hrf
  have b4 : ((F.length : Int) != (nF : Int)) = true := by simp; omega
  clear e3 z1 z2
  go_wp2_with fail
  go_ret
  exact ⟨rfl, hb⟩
 have b4 : ((F.length : Int) != (nF : Int)) = false := by simp [e3]
 have E3 := Lib.hid e3
 clear e3
 by_cases e3 : G.length = nG
 case neg =>
  have hrf : r = false := by cases r; rfl; exact absurd (by rw [(HR.out.1 rfl).2.2.2.1, HnG.out]) e3
  subst hrf
  have b5 : ((G.length : Int) != (nG : Int)) = true := by simp; omega
  clear e3 z1 z2
  go_wp2_with fail
  go_ret
  exact ⟨rfl, hb⟩
 have b5 : ((G.length : Int) != (nG : Int)) = false := by simp [e3]
 have E4 := Lib.hid e3
 clear e3
 by_cases e3 : I.length = nI
 case neg =>
  have hrf : r = false := by cases r; rfl; exact absurd (by rw [(HR.out.1 rfl).2.2.2.2, HnI.out]) e3
  subst hrf
  have b6 : ((I.length : Int) != (nI : Int)) = true := by simp; omega
  clear e3 z1 z2
  go_wp2_with fail
  go_ret
  exact ⟨rfl, hb⟩
 have b6 : ((I.length : Int) != (nI : Int)) = false := by simp [e3]
 have E5 := Lib.hid e3
 clear e3
 go_wp2_with fail
 clear b1 b2 b3 b4 b5 b6
 go_loopw [50] (fun i wr => ∃ k : Nat, i = .int .i64 k ∧ k ≤ F.length ∧ Hid (UpTo F F' k) ∧ Box wr w.heap.size 38 [.string tn, .bool te, .slice P2 F.length p2, .slice P3 G.length p3, .slice P4 I.length p4] ∧ Box wr (w.heap.size + 1) 38 [.string tn, .bool te, .slice Q2 nF q2, .slice Q3 nG q3, .slice Q4 nI q4] ∧ Below w.heap.size w wr) (fun i _ => F.length - (intOf i).toNat)
 case atStart => exact ⟨0, rfl, by omega, (fun j _ _ h => by omega), z1, z2, hb⟩
 case round =>
  clear z1 z2 hb
  obtain ⟨k, rfl, hk, hu, z1, z2, hb⟩ := hrel
  have m1 : wr.cell? ⟨w.heap.size, 2, none⟩ = some (.slice P2 F.length p2) := z1.cell 2
  have m2 : wr.cell? ⟨w.heap.size + 1, 2, none⟩ = some (.slice Q2 nF q2) := z2.cell 2
  have l1 := z1.lt
  have l2 := z2.lt
  by_cases hlt : k < F.length
  ·have hlt2 : k < F'.length := by rw [← HnF.out, ← E3.out]; exact hlt
   have hlt' : (k : Int) < nF := by rw [HnF.out]; omega
   obtain ⟨g, o, es, hA, hS, hg, hes, hr, hc⟩ := ((RSl.fair RField.fair).below HF.out hb).at_ hlt
   obtain ⟨g', o', es', hA', hS', hg', hes', hr', hc'⟩ := ((RSl.fair RField.fair).below HF'.out hb).at_ hlt2
   rw [hA] at m1
   rw [hA'] at m2
   obtain ⟨p, hpe⟩ : ∃ p, p = F[k] := ⟨_, rfl⟩
   obtain ⟨q, hqe⟩ : ∃ p, p = F'[k] := ⟨_, rfl⟩
   rw [← hpe] at hr
   rw [← hqe] at hr'
   have HST := Lib.hid (fun (e : p = q) => upto_step hu.out hlt hlt2 (by rw [← hpe, ← hqe, e]))
   have HNO := Lib.hid (fun (e : p ≠ q) => (show r = false by
    cases r
    ·rfl
    ·have h := (HR.out.1 rfl).2.2.1
     subst h
     exact absurd (hpe.trans hqe.symm) e))
   clear hpe hqe hu
   have e1 : es = fieldCells p := hr
   have e2 : es' = fieldCells q := hr'
   subst e1 e2
   have c0 : wr.cell? ⟨g, o + k * 5, none⟩ = some (.int .i64 p.id) := hc.at_ 0 rfl
   have d0 : wr.cell? ⟨g', o' + k * 5, none⟩ = some (.int .i64 q.id) := hc'.at_ 0 rfl
   have c1 : wr.cell? ⟨g, o + k * 5 + 1, none⟩ = some (.string p.name) := hc.at_ 1 rfl
   have d1 : wr.cell? ⟨g', o' + k * 5 + 1, none⟩ = some (.string q.name) := hc'.at_ 1 rfl
   have c2 : wr.cell? ⟨g, o + k * 5 + 2, none⟩ = some (.string p.type) := hc.at_ 2 rfl
   have d2 : wr.cell? ⟨g', o' + k * 5 + 2, none⟩ = some (.string q.type) := hc'.at_ 2 rfl
   have c3 : wr.cell? ⟨g, o + k * 5 + 3, none⟩ = some (.int .i64 p.kind) := hc.at_ 3 rfl
   have d3 : wr.cell? ⟨g', o' + k * 5 + 3, none⟩ = some (.int .i64 q.kind) := hc'.at_ 3 rfl
   have c4 : wr.cell? ⟨g, o + k * 5 + 4, none⟩ = some (.int .i64 p.rule) := hc.at_ 4 rfl
   have d4 : wr.cell? ⟨g', o' + k * 5 + 4, none⟩ = some (.int .i64 q.rule) := hc'.at_ 4 rfl
   have hgd := field_guardR
   have hneq := fun W => run_neq_field2 p q W
   clear hr hr' hc hc' hes hes' hS hS' hA hA' hlt2
   by_cases he : p = q
   ·have HU := Lib.hid (HST.out he)
    have hd : decide (p = q) = true := by simpa using he
    rw [hd] at hneq
    clear he HST HNO hd
    go_wp2_with fail
    go_quiet (fail)
    go_wp2_with fail
    go_roundw
    case rel => exact ⟨k + 1, by go_num, by omega, HU, z1.drewN _, z2.drewN _, below_drewN hb _⟩
    case measure => simp [intOf]; omega
   ·have hrf := HNO.out he
    subst hrf
    have hd : decide (p = q) = false := by simpa using he
    rw [hd] at hneq
    clear he HST HNO hd z1 z2
    go_wp2_with fail
    go_quiet (fail)
    go_wp2_with fail
    go_ret
    exact ⟨rfl, below_drewN hb _⟩
  ·have EF := Lib.hid (upto_all (E3.out.trans HnF.out) (fun j a b h => hu.out j a b (by omega)))
   have m1 : wr.cell? ⟨w.heap.size, 3, none⟩ = some (.slice P3 G.length p3) := z1.cell 3
   clear m2 hu
   go_wp2_with fail
   clear m1 l1 l2 hlt hk
   go_loopw [68] (fun i wr => ∃ k : Nat, i = .int .i64 k ∧ k ≤ G.length ∧ Hid (UpTo G G' k) ∧ Box wr w.heap.size 38 [.string tn, .bool te, .slice P2 F.length p2, .slice P3 G.length p3, .slice P4 I.length p4] ∧ Box wr (w.heap.size + 1) 38 [.string tn, .bool te, .slice Q2 nF q2, .slice Q3 nG q3, .slice Q4 nI q4] ∧ Below w.heap.size w wr) (fun i _ => G.length - (intOf i).toNat)
   case atStart => exact ⟨0, rfl, by omega, (fun j _ _ h => by omega), z1, z2, hb⟩
   case round =>
    clear z1 z2 hb
    obtain ⟨k, rfl, hk, hu, z1, z2, hb⟩ := hrel
    have m1 : wr.cell? ⟨w.heap.size, 3, none⟩ = some (.slice P3 G.length p3) := z1.cell 3
    have m2 : wr.cell? ⟨w.heap.size + 1, 3, none⟩ = some (.slice Q3 nG q3) := z2.cell 3
    have l1 := z1.lt
    have l2 := z2.lt
    by_cases hlt : k < G.length
    ·have hlt2 : k < G'.length := by rw [← HnG.out, ← E4.out]; exact hlt
     have hlt' : (k : Int) < nG := by rw [HnG.out]; omega
     obtain ⟨g, o, es, hA, hS, hg, hes, hr, hc⟩ := ((RSl.fair RInt.fair).below HG.out hb).at_ hlt
     obtain ⟨g', o', es', hA', hS', hg', hes', hr', hc'⟩ := ((RSl.fair RInt.fair).below HG'.out hb).at_ hlt2
     rw [hA] at m1
     rw [hA'] at m2
     obtain ⟨p, hpe⟩ : ∃ p, p = G[k] := ⟨_, rfl⟩
     obtain ⟨q, hqe⟩ : ∃ p, p = G'[k] := ⟨_, rfl⟩
     rw [← hpe] at hr
     rw [← hqe] at hr'
     have HST := Lib.hid (fun (e : p = q) => upto_step hu.out hlt hlt2 (by rw [← hpe, ← hqe, e]))
     have HNO := Lib.hid (fun (e : p ≠ q) => (show r = false by
      cases r
      ·rfl
      ·have h := (HR.out.1 rfl).2.2.2.1
       subst h
       exact absurd (hpe.trans hqe.symm) e))
     clear hpe hqe hu
     have e1 : es = [.int .i64 p] := hr
     have e2 : es' = [.int .i64 q] := hr'
     subst e1 e2
     have c0 : wr.cell? ⟨g, o + k, none⟩ = some (.int .i64 p) := by have := hc.at_ 0 rfl; simpa using this
     have d0 : wr.cell? ⟨g', o' + k, none⟩ = some (.int .i64 q) := by have := hc'.at_ 0 rfl; simpa using this
     clear hr hr' hc hc' hes hes' hS hS' hA hA' hlt2
     by_cases he : p = q
     ·have HU := Lib.hid (HST.out he)
      have hd : (p != q) = false := by simpa using he
      clear he HST HNO
      go_wp2_with fail
      go_quiet (fail)
      go_wp2_with fail
      go_roundw
      case rel => exact ⟨k + 1, by go_num, by omega, HU, z1.drewN _, z2.drewN _, below_drewN hb _⟩
      case measure => simp [intOf]; omega
     ·have hrf := HNO.out he
      subst hrf
      have hd : (p != q) = true := by simpa using he
      clear he HST HNO z1 z2
      go_wp2_with fail
      go_quiet (fail)
      go_wp2_with fail
      go_ret
      exact ⟨rfl, below_drewN hb _⟩
    ·have EG := Lib.hid (upto_all (E4.out.trans HnG.out) (fun j a b h => hu.out j a b (by omega)))
     have m1 : wr.cell? ⟨w.heap.size, 4, none⟩ = some (.slice P4 I.length p4) := z1.cell 4
     clear m2 hu
     go_wp2_with fail
     clear m1 l1 l2 hlt hk
     go_loopw [86] (fun i wr => ∃ k : Nat, i = .int .i64 k ∧ k ≤ I.length ∧ Hid (UpTo I I' k) ∧ Box wr w.heap.size 38 [.string tn, .bool te, .slice P2 F.length p2, .slice P3 G.length p3, .slice P4 I.length p4] ∧ Box wr (w.heap.size + 1) 38 [.string tn, .bool te, .slice Q2 nF q2, .slice Q3 nG q3, .slice Q4 nI q4] ∧ Below w.heap.size w wr) (fun i _ => I.length - (intOf i).toNat)
     case atStart => exact ⟨0, rfl, by omega, (fun j _ _ h => by omega), z1, z2, hb⟩
     case round =>
      clear z1 z2 hb
      obtain ⟨k, rfl, hk, hu, z1, z2, hb⟩ := hrel
      have m1 : wr.cell? ⟨w.heap.size, 4, none⟩ = some (.slice P4 I.length p4) := z1.cell 4
      have m2 : wr.cell? ⟨w.heap.size + 1, 4, none⟩ = some (.slice Q4 nI q4) := z2.cell 4
      have l1 := z1.lt
      have l2 := z2.lt
      by_cases hlt : k < I.length
      ·have hlt2 : k < I'.length := by rw [← HnI.out, ← E5.out]; exact hlt
       have hlt' : (k : Int) < nI := by rw [HnI.out]; omega
       obtain ⟨g, o, es, hA, hS, hg, hes, hr, hc⟩ := ((RSl.fair RItem.fair).below HI.out hb).at_ hlt
       obtain ⟨g', o', es', hA', hS', hg', hes', hr', hc'⟩ := ((RSl.fair RItem.fair).below HI'.out hb).at_ hlt2
       rw [hA] at m1
       rw [hA'] at m2
       obtain ⟨p, hpe⟩ : ∃ p, p = I[k] := ⟨_, rfl⟩
       obtain ⟨q, hqe⟩ : ∃ p, p = I'[k] := ⟨_, rfl⟩
       rw [← hpe] at hr
       rw [← hqe] at hr'
       have HST := Lib.hid (fun (e : p = q) => upto_step hu.out hlt hlt2 (by rw [← hpe, ← hqe, e]))
       have HNO := Lib.hid (fun (e : p ≠ q) => (show r = false by
        cases r
        ·rfl
        ·have h := (HR.out.1 rfl).2.2.2.2
         subst h
         exact absurd (hpe.trans hqe.symm) e))
       clear hpe hqe hu
       have e1 : es = itemCells p := hr
       have e2 : es' = itemCells q := hr'
       subst e1 e2
       have c0 : wr.cell? ⟨g, o + k * 2, none⟩ = some (.string p.name) := hc.at_ 0 rfl
       have d0 : wr.cell? ⟨g', o' + k * 2, none⟩ = some (.string q.name) := hc'.at_ 0 rfl
       have c1 : wr.cell? ⟨g, o + k * 2 + 1, none⟩ = some (.int .i64 p.n) := hc.at_ 1 rfl
       have d1 : wr.cell? ⟨g', o' + k * 2 + 1, none⟩ = some (.int .i64 q.n) := hc'.at_ 1 rfl
       have hgd := item_guardR
       have hneq := fun W => run_neq_item2 p q W
       clear hr hr' hc hc' hes hes' hS hS' hA hA' hlt2
       by_cases he : p = q
       ·have HU := Lib.hid (HST.out he)
        have hd : decide (p = q) = true := by simpa using he
        rw [hd] at hneq
        clear he HST HNO hd
        go_wp2_with fail
        go_quiet (fail)
        go_wp2_with fail
        go_roundw
        case rel => exact ⟨k + 1, by go_num, by omega, HU, z1.drewN _, z2.drewN _, below_drewN hb _⟩
        case measure => simp [intOf]; omega
       ·have hrf := HNO.out he
        subst hrf
        have hd : decide (p = q) = false := by simpa using he
        rw [hd] at hneq
        clear he HST HNO hd z1 z2
        go_wp2_with fail
        go_quiet (fail)
        go_wp2_with fail
        go_ret
        exact ⟨rfl, below_drewN hb _⟩
      ·have hrt : r = true := HR.out.2 ⟨by simp, by simp, EF.out, EG.out, upto_all (E5.out.trans HnI.out) (fun j a b h => hu.out j a b (by omega))⟩
       subst hrt
       go_wp2_with fail
       go_ret
       exact ⟨rfl, hb⟩
theorem sameBook_genR (S S' : Nat → Prop) (v v' : Value) (b b' : BookD) (w : World) (h1 : RSl 5 96 RType S w [v] b) (h2 : RSl 5 96 RType S' w [v'] b') : Calls Tryz.prog 7 #[.agg #[v], .agg #[v']] w (Ret w (.bool (decide (b = b')))) := by
 obtain ⟨A, d1, rfl, hlc, hlb⟩ := h1.form
 obtain ⟨A', d2, rfl, hlc', hlb'⟩ := h2.form
 have HL := Lib.hid h1
 have HL' := Lib.hid h2
 obtain ⟨r, hr0⟩ : ∃ r, r = decide (b = b') := ⟨_, rfl⟩
 rw [← hr0]
 have HR := Lib.hid hr0
 obtain ⟨z1, z2, hb⟩ := boxes2 w [.slice A b.length d1] [.slice A' b'.length d2] 24 24
 clear h1 h2 hr0
 obtain ⟨n', hn'⟩ : ∃ n, n = b'.length := ⟨_, rfl⟩
 rw [← hn'] at hlc' hlb' z1 z2 hb
 rw [← hn']
 have HN := Lib.hid hn'
 clear hn'
 go_enter Tryz.func7, Tryz.ntmps7
 by_cases hn : b.length = n'
 case neg =>
  have hrf : r = false := by
   rw [HR.out, decide_eq_false_iff_not]
   intro h
   exact hn (by rw [h, HN.out])
  subst hrf
  have e0 : ((b.length : Int) != (n' : Int)) = true := by simp; omega
  clear hn z1 z2
  go_wp2_with fail
  go_ret
  exact ⟨rfl, hb⟩
 have HE := Lib.hid hn
 have e0 : ((b.length : Int) != (n' : Int)) = false := by simp [hn]
 clear hn
 go_wp2_with fail
 clear e0
 go_loopw [16] (fun i wr => ∃ k : Nat, i = .int .i64 k ∧ k ≤ b.length ∧ Hid (UpTo b b' k) ∧ Box wr w.heap.size 24 [.slice A b.length d1] ∧ Box wr (w.heap.size + 1) 24 [.slice A' n' d2] ∧ Below w.heap.size w wr) (fun i _ => b.length - (intOf i).toNat)
 case atStart => exact ⟨0, rfl, by omega, (fun j _ _ h => by omega), z1, z2, hb⟩
 case round =>
  clear z1 z2 hb
  obtain ⟨k, rfl, hk, hu, z1, z2, hb⟩ := hrel
  by_cases hlt : k < b.length
  ·have hlt2 : k < b'.length := by rw [← HN.out, ← HE.out]; exact hlt
   have hlt' : (k : Int) < n' := by rw [HN.out]; omega
   obtain ⟨lg, lo, rfl, hSl, hgl⟩ := HL.out.base (by omega)
   obtain ⟨mg, mo, rfl, hSm, hgm⟩ := HL'.out.base (by omega)
   obtain ⟨es, _, hrx, hlx⟩ := HL.out.lies hlt
   obtain ⟨fs, _, hry, hly⟩ := HL'.out.lies hlt2
   obtain ⟨t, ht⟩ : ∃ t, t = b[k] := ⟨_, rfl⟩
   obtain ⟨t', ht'⟩ : ∃ t, t = b'[k] := ⟨_, rfl⟩
   rw [← ht] at hrx
   rw [← ht'] at hry
   have HST := Lib.hid (fun (e : t = t') => upto_step hu.out hlt hlt2 (by rw [← ht, ← ht', e]))
   have HNO := Lib.hid (fun (e : t ≠ t') => (show r = false by rw [HR.out, decide_eq_false_iff_not]; intro h; subst h; exact e (ht.trans ht'.symm)))
   obtain ⟨P2, p2, P3, p3, P4, p4, rfl, -, -, -⟩ := hrx.parts
   obtain ⟨Q2, q2, Q3, q3, Q4, q4, rfl, -, -, -⟩ := hry.parts
   have hc := hlx.keep (Keep.of_below (below_drew hb)) hSl
   have hd := hly.keep (Keep.of_below (below_drew hb)) hSm
   have hw' := below_drew hb
   have z1' := z1.drew
   have z2' := z2.drew
   have HRx := Lib.hid (RType.fair.below hrx hw')
   have HRy := Lib.hid (RType.fair.below hry hw')
   have hS : (fun W' : World => W'.cell? ⟨w.heap.size, 0, none⟩ = some (.slice (some ⟨lg, lo, none⟩) b.length d1) ∧ (W'.cell? ⟨lg, lo + k * 5, none⟩ = some (.string t.name) ∧ W'.cell? ⟨lg, lo + k * 5 + 1, none⟩ = some (.bool t.enum) ∧ W'.cell? ⟨lg, lo + k * 5 + 2, none⟩ = some (.slice P2 t.fields.length p2) ∧ W'.cell? ⟨lg, lo + k * 5 + 3, none⟩ = some (.slice P3 t.gone.length p3) ∧ W'.cell? ⟨lg, lo + k * 5 + 4, none⟩ = some (.slice P4 t.items.length p4)) ∧ W'.cell? ⟨w.heap.size + 1, 0, none⟩ = some (.slice (some ⟨mg, mo, none⟩) n' d2) ∧ (W'.cell? ⟨mg, mo + k * 5, none⟩ = some (.string t'.name) ∧ W'.cell? ⟨mg, mo + k * 5 + 1, none⟩ = some (.bool t'.enum) ∧ W'.cell? ⟨mg, mo + k * 5 + 2, none⟩ = some (.slice Q2 t'.fields.length q2) ∧ W'.cell? ⟨mg, mo + k * 5 + 3, none⟩ = some (.slice Q3 t'.gone.length q3) ∧ W'.cell? ⟨mg, mo + k * 5 + 4, none⟩ = some (.slice Q4 t'.items.length q4))) wr.drew :=
    ⟨z1.cell 0, ⟨hc.at_ 0 rfl, hc.at_ 1 rfl, hc.at_ 2 rfl, hc.at_ 3 rfl, hc.at_ 4 rfl⟩, z2.cell 0, ⟨hd.at_ 0 rfl, hd.at_ 1 rfl, hd.at_ 2 rfl, hd.at_ 3 rfl, hd.at_ 4 rfl⟩⟩
   clear hrx hry hlx hly ht ht' hc hd z1 z2 hb hu hlt2
   go_wp2_with fail
   refine late_start (lt := 10) (hm := by kernel_rfl) (h := ?_) (S := fun W' : World => W'.cell? ⟨w.heap.size, 0, none⟩ = some (.slice (some ⟨lg, lo, none⟩) b.length d1) ∧ (W'.cell? ⟨lg, lo + k * 5, none⟩ = some (.string t.name) ∧ W'.cell? ⟨lg, lo + k * 5 + 1, none⟩ = some (.bool t.enum) ∧ W'.cell? ⟨lg, lo + k * 5 + 2, none⟩ = some (.slice P2 t.fields.length p2) ∧ W'.cell? ⟨lg, lo + k * 5 + 3, none⟩ = some (.slice P3 t.gone.length p3) ∧ W'.cell? ⟨lg, lo + k * 5 + 4, none⟩ = some (.slice P4 t.items.length p4)) ∧ W'.cell? ⟨w.heap.size + 1, 0, none⟩ = some (.slice (some ⟨mg, mo, none⟩) n' d2) ∧ (W'.cell? ⟨mg, mo + k * 5, none⟩ = some (.string t'.name) ∧ W'.cell? ⟨mg, mo + k * 5 + 1, none⟩ = some (.bool t'.enum) ∧ W'.cell? ⟨mg, mo + k * 5 + 2, none⟩ = some (.slice Q2 t'.fields.length q2) ∧ W'.cell? ⟨mg, mo + k * 5 + 3, none⟩ = some (.slice Q3 t'.gone.length q3) ∧ W'.cell? ⟨mg, mo + k * 5 + 4, none⟩ = some (.slice Q4 t'.items.length q4)))
   refine tkL 0 hS ?_
   try simp only [pu]
   refine tkL 1 hS ?_
   try simp only [pu]
   refine tkL 2 hS ?_
   try simp only [pu]
   refine tkL 3 hS ?_
   try simp only [pu]
   refine tkL 4 hS ?_
   try simp only [pu]
   refine tkL 5 hS ?_
   try simp only [pu]
   refine tkL 6 hS ?_
   try simp only [pu]
   refine tkL 7 hS ?_
   try simp only [pu]
   refine tkL 8 hS ?_
   try simp only [pu]
   refine tkL 9 hS ?_
   try simp only [pu]
   refine late_one (i := 10) rfl (by kernel_rfl) (fun K hK => ?_)
   go_simp
   refine (sameType_genR _ _ _ _ t t' _ HRx.out HRy.out).mono ?_
   rintro e w3 ⟨rfl, hb3⟩
   obtain ⟨c, hcc⟩ : ∃ c, c = decide (t = t') := ⟨_, rfl⟩
   rw [← hcc]
   have Hcc := Lib.hid hcc
   clear hcc
   refine hK.out _ _ (fun h => absurd h (by decide)) ?_
   clear hK K
   try simp only [pu]
   refine late_one (i := 11) rfl (by kernel_rfl) (fun K hK => ?_)
   go_simp
   refine hK.out _ _ (fun h => absurd h (by decide)) ?_
   clear hK K
   try simp only [pu]
   refine late_done (by kernel_rfl) ?_ _
   have hw3 := below_via hw' hb3 hw'.size
   have y1 := z1'.below hb3 z1'.lt
   have y2 := z2'.below hb3 z2'.lt
   clear hS hb3 z1' z2' hw'
   cases c with
   | true =>
    have HU := Lib.hid (HST.out (by simpa using Hcc.out.symm))
    clear HST HNO Hcc
    go_wp2_with fail
    go_roundw
    case rel => exact ⟨k + 1, by go_num, by go_light; omega, HU, y1, y2, hw3⟩
    case measure => go_light; simp [intOf]; omega
   | false =>
    have hrf := HNO.out (by simpa using Hcc.out.symm)
    subst hrf
    clear HST HNO Hcc y1 y2
    go_wp2_with fail
    go_ret
    exact ⟨rfl, hw3⟩
  ·have hrt : r = true := by
    rw [HR.out, decide_eq_true_eq]
    exact upto_all (HE.out.trans HN.out) (fun j a b h => hu.out j a b (by omega))
   subst hrt
   go_wp2_with fail
   go_ret
   exact ⟨rfl, hb⟩
end Go.Proofs.YtihdnjnhhhafkaaGreatDoor
