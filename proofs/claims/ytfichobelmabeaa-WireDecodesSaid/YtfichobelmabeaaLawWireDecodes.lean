/- The walk of the statement WireDecodes. -/
import Derived.Test.YtfichobelmabeaaWireRefDec
import Derived.Test.YtfichobelmabeaaWireSame
namespace Go.Proofs.Ytfichobelmabeaa
open Go.RowKit

set_option maxRecDepth 100000 in
set_option maxHeartbeats 1000000 in
theorem samePart_any (S S' : Nat → Prop) (va vb : Value) (l : List Part) (w : World) (ha : RSl 4 40 RPart S w [va] l) (hb : RSl 4 40 RPart S' w [vb] l) :
    Calls Try.prog 14 #[va, vb] w (Ret w (.bool true)) := by
  obtain ⟨A, cap, rfl, hlc, hlb⟩ := ha.form
  obtain ⟨A', cap', rfl, hlc', hlb'⟩ := hb.form
  have hlen : l.length ≤ 9223372036854775807 := by omega
  have HA := Lib.hid ha
  have HB := Lib.hid hb
  clear ha hb
  go_enter Try.func14, Try.ntmps14
  go_wp2_with fail
  go_loopw [13] (fun i wr => ∃ k : Nat, i = .int .i64 k ∧ k ≤ l.length ∧ Below w.heap.size w wr) (fun i _ => l.length - (intOf i).toNat)
  case atStart => exact ⟨0, rfl, by omega, Below.refl _ _⟩
  case round =>
    obtain ⟨k, rfl, hk, hb⟩ := hrel
    by_cases hlt : k < l.length
    · obtain ⟨g, o, es, rfl, hS, hg, hes, hr, hc⟩ := ((RSl.fair RPart.fair).keep HA.out (Keep.of_below hb)).at_ hlt
      obtain ⟨g', o', es', rfl, hS', hg', hes', hr', hc'⟩ := ((RSl.fair RPart.fair).keep HB.out (Keep.of_below hb)).at_ hlt
      obtain ⟨p, hpe⟩ : ∃ p, p = l[k] := ⟨_, rfl⟩
      rw [← hpe] at hr hr'
      clear hpe
      have e1 : es = partCells p := hr
      have e2 : es' = partCells p := hr'
      subst e1 e2
      have c0 : wr.cell? ⟨g, o + k * 4, none⟩ = some (.int .i64 p.id) := hc.at_ 0 rfl
      have c1 : wr.cell? ⟨g, o + k * 4 + 1, none⟩ = some (.int .i64 p.kind) := hc.at_ 1 rfl
      have c2 : wr.cell? ⟨g, o + k * 4 + 2, none⟩ = some (.int .i64 p.n) := hc.at_ 2 rfl
      have c3 : wr.cell? ⟨g, o + k * 4 + 3, none⟩ = some (.string p.s) := hc.at_ 3 rfl
      have d0 : wr.cell? ⟨g', o' + k * 4, none⟩ = some (.int .i64 p.id) := hc'.at_ 0 rfl
      have d1 : wr.cell? ⟨g', o' + k * 4 + 1, none⟩ = some (.int .i64 p.kind) := hc'.at_ 1 rfl
      have d2 : wr.cell? ⟨g', o' + k * 4 + 2, none⟩ = some (.int .i64 p.n) := hc'.at_ 2 rfl
      have d3 : wr.cell? ⟨g', o' + k * 4 + 3, none⟩ = some (.string p.s) := hc'.at_ 3 rfl
      clear hr hr' hc hc' hes hes' hg hg' hS hS'
      have hgd := part_guard
      have hneq : ∀ W, (binOp .neq 27 (partV p) (partV p)).run Try.prog W = .ok (.bool false) W := fun W => by
        have := run_neq_part p p W
        simpa using this
      go_wp2_with fail
      go_quiet (fail)
      go_wp2_with fail
      go_roundw
      case rel => exact ⟨k + 1, by go_num, by omega, below_drewN hb _⟩
      case measure => simp [intOf]; omega
    · go_wp2_with fail
      go_ret
      exact ⟨rfl, hb⟩

set_option maxRecDepth 100000 in
set_option maxHeartbeats 1000000 in
theorem wireDecodes_any (s : ByteArray) (w : World) (hs : s.size ≤ maxLen) :
    Calls Try.prog 4 #[.string s] w (Ret w (.bool true)) := by
  go_enter Try.func4, Try.ntmps4
  go_wp2_with fail
  refine (decode_any s _ hs).mono ?_
  rintro e w1 ⟨v1, rfl, hr1, hb1, -, -⟩
  have Hr1 := Lib.hid hr1
  clear hr1
  go_wp2_with fail
  refine (decodeParts_any s _ hs).mono ?_
  rintro e w2 ⟨v2, rfl, hr2, hb2, -, -⟩
  have Hr2 := Lib.hid hr2
  have hr12 := (RSl.fair RPart.fair).below Hr1.out hb2
  have Hr12 := Lib.hid hr12
  have hbb := below_via hb1 hb2 hb1.size
  clear hr2 hr12 hb1 hb2
  generalize decF (bytes s) = r at *
  go_wp2_with fail
  refine (samePart_any _ _ _ _ _ _ Hr12.out Hr2.out).mono ?_
  rintro e w3 ⟨rfl, hb3⟩
  have hbc := below_via hbb hb3 hbb.size
  clear hbb hb3
  go_wp2_with fail
  refine (wires_any _).mono ?_
  rintro e w4 ⟨rfl, hb4⟩
  go_wp2_with fail
  go_ret
  exact ⟨rfl, below_via hbc hb4 hbc.size⟩
end Go.Proofs.Ytfichobelmabeaa
