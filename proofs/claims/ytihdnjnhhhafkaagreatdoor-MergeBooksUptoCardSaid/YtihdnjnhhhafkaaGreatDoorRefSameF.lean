/- The walk of the document's own SameFlaws, at what is alike. (Cut from LawFlaws.) -/
import Derived.Test.YtihdnjnhhhafkaaGreatDoorRefSameB
import Derived.Test.YtihdnjnhhhafkaaGreatDoorMLaws
set_option linter.all false
set_option maxRecDepth 100000
set_option maxHeartbeats 8000000
namespace Go.Proofs.YtihdnjnhhhafkaaGreatDoor
open Go.RowKit
theorem flaw_fieldsR : Tryz.prog.underlying 50 = some (.struct (Tryz.prog.fieldsOf 50)) := by kernel_rfl
theorem flaw_heldR : Tryz.prog.stoodInHeld 50 = false := by kernel_rfl
theorem flaw_guardR : Tryz.prog.eqGuardType Tryz.prog.depth 50 = false := by kernel_rfl
theorem run_neq_flawR (p : FlawD) (W : World) : (binOp .neq 50 (.agg #[.string p.type, .int .i64 p.id, .int .i64 p.why]) (.agg #[.string p.type, .int .i64 p.id, .int .i64 p.why])).run Tryz.prog W = .ok (.bool false) W := by
 have h := run_equalIn_agg (P := Tryz.prog) W 9999 50 #[.string p.type, .int .i64 p.id, .int .i64 p.why] #[.string p.type, .int .i64 p.id, .int .i64 p.why] flaw_fieldsR flaw_heldR
 rw [run_neq_struct, h]
 simp [go_sem]
theorem sameFlaws_any (S S' : Nat → Prop) (v v' : Value) (l : List FlawD) (w : World) (h1 : RSl 3 32 RFlaw S w [v] l) (h2 : RSl 3 32 RFlaw S' w [v'] l) : Calls Tryz.prog 8 #[v, v'] w (Ret w (.bool true)) := by
 obtain ⟨A, c, rfl, -, hlb⟩ := h1.form
 obtain ⟨A', c', rfl, -, -⟩ := h2.form
 have H1 := Lib.hid h1
 have H2 := Lib.hid h2
 clear h1 h2
 go_enter Tryz.func8, Tryz.ntmps8
 go_wp2_with fail
 go_loopw [13] (fun i wr => ∃ k : Nat, i = .int .i64 k ∧ k ≤ l.length ∧ Below w.heap.size w wr) (fun i _ => l.length - (intOf i).toNat)
 case atStart => exact ⟨0, rfl, Nat.zero_le _, Below.here w⟩
 case round =>
  obtain ⟨k, rfl, hk, hb⟩ := hrel
  by_cases hlt : k < l.length
  ·have hlt' : (k : Int) < (l.length : Int) := by omega
   obtain ⟨g, o, es, rfl, hS, hg, hes, hr, hc⟩ := ((RSl.fair RFlaw.fair).below H1.out hb).at_ hlt
   obtain ⟨g', o', es', rfl, hS', hg', hes', hr', hc'⟩ := ((RSl.fair RFlaw.fair).below H2.out hb).at_ hlt
   obtain ⟨p, hpe⟩ : ∃ p, p = l[k] := ⟨_, rfl⟩
   rw [← hpe] at hr hr'
   clear hpe
   have e1 : es = flawCells p := hr
   have e2 : es' = flawCells p := hr'
   subst e1 e2
   have c0 : wr.cell? ⟨g, o + k * 3, none⟩ = some (.string p.type) := hc.at_ 0 rfl
   have d0 : wr.cell? ⟨g', o' + k * 3, none⟩ = some (.string p.type) := hc'.at_ 0 rfl
   have c1 : wr.cell? ⟨g, o + k * 3 + 1, none⟩ = some (.int .i64 p.id) := hc.at_ 1 rfl
   have d1 : wr.cell? ⟨g', o' + k * 3 + 1, none⟩ = some (.int .i64 p.id) := hc'.at_ 1 rfl
   have c2 : wr.cell? ⟨g, o + k * 3 + 2, none⟩ = some (.int .i64 p.why) := hc.at_ 2 rfl
   have d2 : wr.cell? ⟨g', o' + k * 3 + 2, none⟩ = some (.int .i64 p.why) := hc'.at_ 2 rfl
   have hgd := flaw_guardR
   have hneq := fun W => run_neq_flawR p W
   clear hr hr' hc hc' hes hes' hS hS'
   go_wp2_with fail
   go_quiet (fail)
   go_wp2_with fail
   go_roundw
   case rel => exact ⟨k + 1, by go_num, by omega, below_drewN hb _⟩
   case measure => simp [intOf]; omega
  ·obtain rfl : k = l.length := by omega
   go_wp2_with fail
   go_ret
   exact ⟨rfl, hb⟩
end Go.Proofs.YtihdnjnhhhafkaaGreatDoor
