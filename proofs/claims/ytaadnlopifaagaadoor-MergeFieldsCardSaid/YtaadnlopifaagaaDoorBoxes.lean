/- More of blocks: several laid one behind the other; whole blocks written beside others. (As in ValueBuilt, for seats without package value.) -/
import Derived.Test.YtaadnlopifaagaaDoorRepMore
namespace Go.Proofs.YtaadnlopifaagaaDoor
open Go.RowKit

theorem Box.farCells {g g' : Nat} {t : TypeId} {cs : List Value} (hg : g ≠ g') : ∀ (bs : List Value) (i : Nat) {w : World}, Box w g t cs → Box (Go.Proofs.YtaadnlopifaagaaDoor.setCells w g' i bs) g t cs
  | [], _, _, h => h
  | b :: bs, i, _, h => Box.farCells hg bs (i + 1) (h.far (p := ⟨g', i, none⟩) hg b)
/-- The cells of a block of five. -/
theorem Box.five {w : World} {g : Nat} {t : TypeId} {a b c d e : Value} (h : Box w g t [a, b, c, d, e]) :
    w.cell? ⟨g, 0, none⟩ = some a ∧ w.cell? ⟨g, 1, none⟩ = some b ∧ w.cell? ⟨g, 2, none⟩ = some c ∧ w.cell? ⟨g, 3, none⟩ = some d ∧ w.cell? ⟨g, 4, none⟩ = some e :=
  ⟨h.cell 0, h.cell 1, h.cell 2, h.cell 3, h.cell 4⟩
theorem Box.newB {B : Nat} {a w : World} (_ : Below B a w) (t : TypeId) (cs : List Value) : Box (w.alloc (.cells cs.toArray t)) w.heap.size t cs := Box.new w t cs
theorem Box.grownR {α : Type} {R : Rel α} {base e sz g : Nat} {T : Nat → Prop} {w w' : World} {v : Value} {xs : List α} {t : TypeId} {cs : List Value} (h : Box w g t cs) (ho : Own base e sz R T w v xs) (hc : g < base ∨ e ≠ t) (hg : w.grownBy w' v.ownBlock) : Box w' g t cs :=
  h.grown hg (by
    rcases hc with hc | hc
    · intro e; have := (ho.lt e).1; omega
    · exact h.ne_own ho hc)
theorem Box.lies {w : World} {g : Nat} {t : TypeId} {cs : List Value} (h : Box w g t cs) : Lies w g 0 cs := fun j _ => by rw [Nat.zero_add]; exact h.cell j
theorem Keep.setCells {S : Nat → Prop} {g : Nat} (hg : ¬ S g) : ∀ (vs : List Value) (i : Nat) (w : World), Keep S w (setCells w g i vs)
  | [], _, w => Keep.refl _ _
  | v :: vs, i, w => (Keep.setCell (S := S) w (a := ⟨g, i, none⟩) v hg).trans (Keep.setCells hg vs (i + 1) _)
section
variable (w : World) (a b c d : List Value) (ta tb tc td : TypeId)
theorem boxes1 : Box (w.alloc (.cells a.toArray ta)) w.heap.size ta a ∧ Below w.heap.size w (w.alloc (.cells a.toArray ta)) :=
  ⟨Box.new w ta a, (Below.refl _ _).alloc (Nat.le_refl _) _⟩
theorem boxes2 : Box ((w.alloc (.cells a.toArray ta)).alloc (.cells b.toArray tb)) w.heap.size ta a ∧ Box ((w.alloc (.cells a.toArray ta)).alloc (.cells b.toArray tb)) (w.heap.size + 1) tb b ∧
    Below w.heap.size w ((w.alloc (.cells a.toArray ta)).alloc (.cells b.toArray tb)) := by
  obtain ⟨h1, h2⟩ := boxes1 w a ta
  refine ⟨h1.alloc _, ?_, h2.alloc h2.size _⟩
  have := Box.new (w.alloc (.cells a.toArray ta)) tb b
  simpa using this
theorem boxes3 : Box (((w.alloc (.cells a.toArray ta)).alloc (.cells b.toArray tb)).alloc (.cells c.toArray tc)) w.heap.size ta a ∧ Box (((w.alloc (.cells a.toArray ta)).alloc (.cells b.toArray tb)).alloc (.cells c.toArray tc)) (w.heap.size + 1) tb b ∧
    Box (((w.alloc (.cells a.toArray ta)).alloc (.cells b.toArray tb)).alloc (.cells c.toArray tc)) (w.heap.size + 1 + 1) tc c ∧ Below w.heap.size w (((w.alloc (.cells a.toArray ta)).alloc (.cells b.toArray tb)).alloc (.cells c.toArray tc)) := by
  obtain ⟨h1, h2, h3⟩ := boxes2 w a b ta tb
  refine ⟨h1.alloc _, h2.alloc _, ?_, h3.alloc h3.size _⟩
  have := Box.new ((w.alloc (.cells a.toArray ta)).alloc (.cells b.toArray tb)) tc c
  simpa using this
theorem boxes4 : Box ((((w.alloc (.cells a.toArray ta)).alloc (.cells b.toArray tb)).alloc (.cells c.toArray tc)).alloc (.cells d.toArray td)) w.heap.size ta a ∧ Box ((((w.alloc (.cells a.toArray ta)).alloc (.cells b.toArray tb)).alloc (.cells c.toArray tc)).alloc (.cells d.toArray td)) (w.heap.size + 1) tb b ∧
    Box ((((w.alloc (.cells a.toArray ta)).alloc (.cells b.toArray tb)).alloc (.cells c.toArray tc)).alloc (.cells d.toArray td)) (w.heap.size + 1 + 1) tc c ∧ Box ((((w.alloc (.cells a.toArray ta)).alloc (.cells b.toArray tb)).alloc (.cells c.toArray tc)).alloc (.cells d.toArray td)) (w.heap.size + 1 + 1 + 1) td d ∧
    Below w.heap.size w ((((w.alloc (.cells a.toArray ta)).alloc (.cells b.toArray tb)).alloc (.cells c.toArray tc)).alloc (.cells d.toArray td)) := by
  obtain ⟨h1, h2, h3, h4⟩ := boxes3 w a b c ta tb tc
  refine ⟨h1.alloc _, h2.alloc _, h3.alloc _, ?_, h4.alloc h4.size _⟩
  have := Box.new (((w.alloc (.cells a.toArray ta)).alloc (.cells b.toArray tb)).alloc (.cells c.toArray tc)) td d
  simpa using this
end
end Go.Proofs.YtaadnlopifaagaaDoor
