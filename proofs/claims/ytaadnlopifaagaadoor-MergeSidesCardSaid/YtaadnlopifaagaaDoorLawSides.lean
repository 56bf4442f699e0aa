/- The walk of the statement MergeSides. -/
import Derived.Test.YtaadnlopifaagaaDoorMergeMerges
namespace Go.Proofs.YtaadnlopifaagaaDoor
open Go.RowKit

theorem flaw_guard : Tryd.prog.eqGuardType Tryd.prog.depth 32 = false := by kernel_rfl
theorem flaw_fields : Tryd.prog.underlying 32 = some (.struct (Tryd.prog.fieldsOf 32)) := by kernel_rfl
theorem flaw_held : Tryd.prog.stoodInHeld 32 = false := by kernel_rfl
theorem run_neq_flaw (p : FlawD) (W : World) : (binOp .neq 32 (.agg #[.string p.type, .int .i64 p.id, .int .i64 p.why]) (.agg #[.string p.type, .int .i64 p.id, .int .i64 p.why])).run Tryd.prog W = .ok (.bool false) W := by
  have h := run_equalIn_agg (P := Tryd.prog) W 9999 32 #[.string p.type, .int .i64 p.id, .int .i64 p.why] #[.string p.type, .int .i64 p.id, .int .i64 p.why] flaw_fields flaw_held
  rw [run_neq_struct, h]
  simp [go_sem]

set_option maxRecDepth 100000 in
set_option maxHeartbeats 8000000 in
theorem mergeSides_any (S : Nat → Prop) (va vb vc : Value) (was a b : BookD) (w : World) (h1 : RSl 5 96 RType S w [va] was) (h2 : RSl 5 96 RType S w [vb] a) (h3 : RSl 5 96 RType S w [vc] b) (hW : Words w) (o1 : BookOk was) (o2 : BookOk a) (o3 : BookOk b) :
    Calls Tryd.prog 3 #[.agg #[va], .agg #[vb], .agg #[vc]] w (Ret w (.bool true)) := by
  obtain ⟨A1, k1, rfl, -, -⟩ := h1.form
  obtain ⟨A2, k2, rfl, -, -⟩ := h2.form
  obtain ⟨A3, k3, rfl, -, -⟩ := h3.form
  obtain ⟨x1, x2, x3, x4⟩ := boxes3 w [.slice A1 was.length k1] [.slice A2 a.length k2] [.slice A3 b.length k3] 24 24 24
  have hR1 : ∀ W', Below w.heap.size w W' → RBook (Old w) W' [.slice A1 was.length k1] was ∧ RBook (Old w) W' [.slice A2 a.length k2] a ∧ RBook (Old w) W' [.slice A3 b.length k3] b ∧ Words W' := fun W' h =>
    ⟨RBook.fair.below (RBook.fair.old h1) h, RBook.fair.below (RBook.fair.old h2) h, RBook.fair.below (RBook.fair.old h3) h, hW.below h⟩
  have H1 := Lib.hid (fun W' (h : Below w.heap.size w W') => books_any (Old w) _ _ _ was a b W' (hR1 W' h).1 (hR1 W' h).2.1 (hR1 W' h).2.2.1 (hR1 W' h).2.2.2 o1 o2 o3)
  have h2' := fun W' (h : Below w.heap.size w W') => books_any (Old w) _ _ _ was b a W' (hR1 W' h).1 (hR1 W' h).2.2.1 (hR1 W' h).2.1 (hR1 W' h).2.2.2 o1 o3 o2
  rw [← books_comm] at h2'
  have H2 := Lib.hid h2'
  have HM := Lib.hid (fun W' (h : Below w.heap.size w W') => merges_any W' (hR1 W' h).2.2.2)
  have hfl := books_flaws was a b
  obtain ⟨⟨rb, rl, rc⟩, hr⟩ : ∃ r, r = booksM was a b := ⟨_, rfl⟩
  rw [← hr] at H1 H2 hfl
  dsimp only at hfl
  have HFL := Lib.hid hfl
  have c1 := x1.cell 0
  have c2 := x2.cell 0
  have c3 := x3.cell 0
  have l1 := x1.lt
  have l2 := x2.lt
  have l3 := x3.lt
  simp only [List.getElem?_cons_zero] at c1 c2 c3
  clear h1 h2 h3 hW o1 o2 o3 hR1 h2' hfl hr
  go_enter Tryd.func3, Tryd.ntmps3
  go_wp2_with fail
  refine (H1.out _ x4).mono ?_
  rintro e w1 ⟨vo, vl, rfl, hro, hrl, hb1⟩
  dsimp only at hro hrl ⊢
  obtain ⟨V1, v1, rfl, -, -⟩ := hro.form
  obtain ⟨L1, m1, rfl, hlc, hlb⟩ := hrl.form
  have hw1 := below_via x4 hb1 x4.size
  have hwa := hw1.alloc hw1.size (.cells #[.slice V1 rb.length v1] 24)
  have y1 := (x1.below hb1 x1.lt).alloc (.cells #[.slice V1 rb.length v1] 24)
  have y2 := (x2.below hb1 x2.lt).alloc (.cells #[.slice V1 rb.length v1] 24)
  have y3 := (x3.below hb1 x3.lt).alloc (.cells #[.slice V1 rb.length v1] 24)
  have zo := Box.new w1 24 [.slice V1 rb.length v1]
  have HO := Lib.hid (RBook.fair.keep hro (Keep.alloc _ w1 (.cells #[.slice V1 rb.length v1] 24)))
  have HL := Lib.hid ((RSl.fair RFlaw.fair).keep hrl (Keep.alloc _ w1 (.cells #[.slice V1 rb.length v1] 24)))
  clear c1 c2 c3 l1 l2 l3 x1 x2 x3 x4 hro hrl hb1 H1
  go_upto_region 2 with fail
  generalize hWa : w1.alloc (.cells #[.slice V1 rb.length v1] 24) = Wa at *
  generalize hX : w1.heap.size = X at *
  clear hWa hX hw1
  have c1 := y1.cell 0
  have c2 := y2.cell 0
  have c3 := y3.cell 0
  have l1 := y1.lt
  have l2 := y2.lt
  have l3 := y3.lt
  simp only [List.getElem?_cons_zero] at c1 c2 c3
  go_wp2_with fail
  refine (H2.out _ hwa).mono ?_
  rintro e w2 ⟨vo2, vl2, rfl, hro2, hrl2, hb2⟩
  dsimp only at hro2 hrl2 ⊢
  obtain ⟨V2, v2, rfl, -, -⟩ := hro2.form
  obtain ⟨L2, m2, rfl, hlc2, hlb2⟩ := hrl2.form
  have hw2 := below_via hwa hb2 hwa.size
  have hwb := hw2.alloc hw2.size (.cells #[.slice V2 rb.length v2] 24)
  have zo2 := (zo.below hb2 zo.lt).alloc (.cells #[.slice V2 rb.length v2] 24)
  have zp := Box.new w2 24 [.slice V2 rb.length v2]
  have HO2 := Lib.hid (RBook.fair.keep (RBook.fair.below HO.out hb2) (Keep.alloc _ w2 (.cells #[.slice V2 rb.length v2] 24)))
  have HL2 := Lib.hid ((RSl.fair RFlaw.fair).keep ((RSl.fair RFlaw.fair).below HL.out hb2) (Keep.alloc _ w2 (.cells #[.slice V2 rb.length v2] 24)))
  have HP := Lib.hid (RBook.fair.keep hro2 (Keep.alloc _ w2 (.cells #[.slice V2 rb.length v2] 24)))
  have HLP := Lib.hid ((RSl.fair RFlaw.fair).keep hrl2 (Keep.alloc _ w2 (.cells #[.slice V2 rb.length v2] 24)))
  clear c1 c2 c3 l1 l2 l3 y1 y2 y3 hwa hro2 hrl2 hb2 H2 HO HL zo
  go_upto_region 3 with fail
  generalize hWb : w2.alloc (.cells #[.slice V2 rb.length v2] 24) = Wb at *
  generalize hY : w2.heap.size = Y at *
  clear hWb hY hw2
  have c1 := zo2.cell 0
  have c2 := zp.cell 0
  have l1 := zo2.lt
  have l2 := zp.lt
  simp only [List.getElem?_cons_zero] at c1 c2
  have hne : (rc != rc) = false := by simp
  go_wp2_with fail
  refine (sameBook_any _ _ _ _ rb _ HO2.out HP.out).mono ?_
  rintro e w3 ⟨rfl, hb3⟩
  have hw3 := below_via hwb hb3 hwb.size
  have HL3 := Lib.hid ((RSl.fair RFlaw.fair).below HL2.out hb3)
  have HL3' := Lib.hid ((RSl.fair RFlaw.fair).below HLP.out hb3)
  clear c1 c2 l1 l2 zo2 zp hb3 hwb HO2 HP HL2 HLP
  have hll : ((rl.length : Int) != (rl.length : Int)) = false := by simp
  go_wp2_with fail
  refine (HM.out _ hw3).mono ?_
  rintro e w4 ⟨rfl, hb4⟩
  have hw4 := below_via hw3 hb4 hw3.size
  have HL4 := Lib.hid ((RSl.fair RFlaw.fair).below HL3.out hb4)
  have HL4' := Lib.hid ((RSl.fair RFlaw.fair).below HL3'.out hb4)
  clear hb4 hw3 HL3 HL3' hll
  go_wp2_with fail
  have hgd := flaw_guard
  go_loopw [52] (fun i wr => ∃ k : Nat, i = .int .i64 k ∧ k ≤ rl.length ∧ Below w4.heap.size w4 wr) (fun i _ => rl.length - (intOf i).toNat)
  case atStart => exact ⟨0, rfl, by omega, Below.refl _ _⟩
  case round =>
    obtain ⟨k, rfl, hk, hb⟩ := hrel
    by_cases hlt : k < rl.length
    · obtain ⟨g, o, es, rfl, hS, hg, hes, hr, hc⟩ := ((RSl.fair RFlaw.fair).below HL4.out hb).at_ hlt
      obtain ⟨g', o', es', rfl, hS', hg', hes', hr', hc'⟩ := ((RSl.fair RFlaw.fair).below HL4'.out hb).at_ hlt
      obtain ⟨p, hpe⟩ : ∃ p, p = rl[k] := ⟨_, rfl⟩
      rw [← hpe] at hr hr'
      clear hpe
      have e1 : es = flawCells p := hr
      have e2 : es' = flawCells p := hr'
      subst e1 e2
      have c0 : wr.cell? ⟨g, o + k * 3, none⟩ = some (.string p.type) := hc.at_ 0 rfl
      have c1 : wr.cell? ⟨g, o + k * 3 + 1, none⟩ = some (.int .i64 p.id) := hc.at_ 1 rfl
      have c2 : wr.cell? ⟨g, o + k * 3 + 2, none⟩ = some (.int .i64 p.why) := hc.at_ 2 rfl
      have d0 : wr.cell? ⟨g', o' + k * 3, none⟩ = some (.string p.type) := hc'.at_ 0 rfl
      have d1 : wr.cell? ⟨g', o' + k * 3 + 1, none⟩ = some (.int .i64 p.id) := hc'.at_ 1 rfl
      have d2 : wr.cell? ⟨g', o' + k * 3 + 2, none⟩ = some (.int .i64 p.why) := hc'.at_ 2 rfl
      have hneq := fun W => run_neq_flaw p W
      clear hr hr' hc hc' hes hes' hg hg' hS hS'
      go_wp2_with fail
      go_quiet (fail)
      go_wp2_with fail
      go_roundw
      case rel => exact ⟨k + 1, by go_num, by omega, below_drewN hb _⟩
      case measure => simp [intOf]; omega
    · have hbw := below_via hw4 hb hw4.size
      by_cases hL : 0 < rl.length
      · have h9 : rc = 9 := HFL.out.2 hL
        subst h9
        have e1 : decide (0 < rl.length) = true := by simpa using hL
        have e2 : decide (0 < (rl.length : Int)) = true := by simp; omega
        go_wp2_with fail
        go_ret
        exact ⟨ret_b (by simp <;> omega), hbw⟩
      · have h9 : (rc == 9) = false := by
          have : rc ≠ 9 := fun h => hL (HFL.out.1 h)
          simpa using this
        have h0 : rl.length = 0 := by omega
        have h00 : rl = [] := List.eq_nil_of_length_eq_zero h0
        subst h00
        clear hL h0
        go_wp2_with fail
        go_ret
        exact ⟨rfl, hbw⟩
end Go.Proofs.YtaadnlopifaagaaDoor
