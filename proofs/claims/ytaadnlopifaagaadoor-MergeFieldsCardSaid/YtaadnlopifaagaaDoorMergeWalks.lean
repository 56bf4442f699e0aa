/- The walk of merge.three. -/
import Derived.Deep.Light
import Derived.Test.YtaadnlopifaagaaDoorMergeEq
import Derived.Test.YtaadnlopifaagaaDoorBoxes
namespace Go.Proofs.YtaadnlopifaagaaDoor
open Go.RowKit

theorem Box.eight {w : World} {g : Nat} {t : TypeId} {a b c d e f h i : Value} (hb : Box w g t [a, b, c, d, e, f, h, i]) :
    w.cell? ⟨g, 0, none⟩ = some a ∧ w.cell? ⟨g, 1, none⟩ = some b ∧ w.cell? ⟨g, 2, none⟩ = some c ∧ w.cell? ⟨g, 3, none⟩ = some d ∧ w.cell? ⟨g, 4, none⟩ = some e ∧ w.cell? ⟨g, 5, none⟩ = some f ∧ w.cell? ⟨g, 6, none⟩ = some h ∧ w.cell? ⟨g, 7, none⟩ = some i :=
  ⟨hb.cell 0, hb.cell 1, hb.cell 2, hb.cell 3, hb.cell 4, hb.cell 5, hb.cell 6, hb.cell 7⟩
/-- A state, and whether it is one. -/
def ThreePost (w : World) (r : StateD × Bool) (e : Ending) (w' : World) : Prop := e = .returned (.tuple #[.agg (stCells r.1).toArray, .bool r.2]) ∧ Below w.heap.size w w'
/-- A state. -/
def StPost (w : World) (r : StateD) (e : Ending) (w' : World) : Prop := e = .returned (.agg (stCells r).toArray) ∧ Below w.heap.size w w'
theorem three_results {W : World} {a : Act} {g : Nat} {c0 c1 c2 c3 c4 c5 c6 c7 : Value} {n : Bool} (hb : Box W g 43 [c0, c1, c2, c3, c4, c5, c6, c7]) (h4 : a.tmps.getD 6 undef = .pointer (some ⟨g, 0, none⟩)) (h5 : a.tmps.getD 7 undef = .bool n) :
    (results Tryd.f12 a.tmps).run Tryd.prog W = .ok (.tuple #[.agg #[c0, c1, c2, c3, c4, c5, c6, c7], .bool n]) W := by
  obtain ⟨e0, e1, e2, e3, e4, e5, e6, e7⟩ := hb.eight
  simp only [Array.getD_eq_getD_getElem?] at h4 h5
  simp [results, Tryd.results12, go_sem, h4, h5, e0, e1, e2, e3, e4, e5, e6, e7]

set_option maxRecDepth 100000 in
set_option maxHeartbeats 4000000 in
theorem three_any (was a b : StateD) (w : World) : Calls Tryd.prog 12 #[.agg (stCells was).toArray, .agg (stCells a).toArray, .agg (stCells b).toArray] w (ThreePost w (threeF was a b)) := by
  have h1 := fun W => run_eql_state a b W
  have h2 := fun W => run_eql_state b was W
  have h3 := fun W => run_eql_state a was W
  have hf : threeF was a b = if decide (a = b) = true ∨ decide (b = was) = true then (a, true) else if decide (a = was) = true then (b, true) else (was, false) := by
    unfold threeF; simp only [decide_eq_true_eq]
  obtain ⟨e1, he1⟩ : ∃ x, x = decide (a = b) := ⟨_, rfl⟩
  obtain ⟨e2, he2⟩ : ∃ x, x = decide (b = was) := ⟨_, rfl⟩
  obtain ⟨e3, he3⟩ : ∃ x, x = decide (a = was) := ⟨_, rfl⟩
  rw [← he1] at h1 hf
  rw [← he2] at h2 hf
  rw [← he3] at h3 hf
  clear he1 he2 he3
  have hgd := state_guard
  obtain ⟨r, hr⟩ : ∃ r, r = threeF was a b := ⟨_, rfl⟩
  rw [← hr] at hf ⊢
  have Hr := Lib.hid hf
  clear hr hf
  obtain ⟨at_, ae, ⟨a1, a2, a3, a4, a5⟩, ai⟩ := a
  obtain ⟨bt, be, ⟨b1, b2, b3, b4, b5⟩, bi⟩ := b
  obtain ⟨wt, we, ⟨x1, x2, x3, x4, x5⟩, wi⟩ := was
  simp only [stCells] at h1 h2 h3 ⊢
  have ZA := Lib.hid (boxes4 w (stCells ⟨wt, we, ⟨x1, x2, x3, x4, x5⟩, wi⟩) (stCells ⟨at_, ae, ⟨a1, a2, a3, a4, a5⟩, ai⟩) (stCells ⟨bt, be, ⟨b1, b2, b3, b4, b5⟩, bi⟩) (stCells ⟨at_, ae, ⟨a1, a2, a3, a4, a5⟩, ai⟩) 43 43 43 43)
  have ZB := Lib.hid (boxes4 w (stCells ⟨wt, we, ⟨x1, x2, x3, x4, x5⟩, wi⟩) (stCells ⟨at_, ae, ⟨a1, a2, a3, a4, a5⟩, ai⟩) (stCells ⟨bt, be, ⟨b1, b2, b3, b4, b5⟩, bi⟩) (stCells ⟨bt, be, ⟨b1, b2, b3, b4, b5⟩, bi⟩) 43 43 43 43)
  have ZW := Lib.hid (boxes4 w (stCells ⟨wt, we, ⟨x1, x2, x3, x4, x5⟩, wi⟩) (stCells ⟨at_, ae, ⟨a1, a2, a3, a4, a5⟩, ai⟩) (stCells ⟨bt, be, ⟨b1, b2, b3, b4, b5⟩, bi⟩) (stCells ⟨wt, we, ⟨x1, x2, x3, x4, x5⟩, wi⟩) 43 43 43 43)
  go_enter Tryd.func12, Tryd.ntmps12
  cases e1 <;> cases e2 <;> cases e3
  all_goals
    simp only [Bool.false_eq_true, or_self, or_true, true_or, if_true, if_false] at Hr
    go_wp2_with fail
    rw [Hr.out]
    first
      | exact bodyPost_ret (three_results ZA.out.2.2.2.1 rfl rfl) rfl ⟨rfl, ZA.out.2.2.2.2⟩
      | exact bodyPost_ret (three_results ZB.out.2.2.2.1 rfl rfl) rfl ⟨rfl, ZB.out.2.2.2.2⟩
      | exact bodyPost_ret (three_results ZW.out.2.2.2.1 rfl rfl) rfl ⟨rfl, ZW.out.2.2.2.2⟩
end Go.Proofs.YtaadnlopifaagaaDoor
