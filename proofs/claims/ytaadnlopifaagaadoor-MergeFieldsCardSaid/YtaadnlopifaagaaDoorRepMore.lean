/- More words for memory: a whole block written. -/
import Derived.Test.YtaadnlopifaagaaDoorRep
namespace Go.Proofs.YtaadnlopifaagaaDoor
open Go.RowKit

/-- The cells of block g from i on written. -/
def setCells (w : World) (g : Nat) : Nat → List Value → World
  | _, [] => w
  | i, v :: vs => setCells (w.setCell ⟨g, i, none⟩ v) g (i + 1) vs
theorem Box.setCells_aux {g : Nat} {t : TypeId} : ∀ (bs : List Value) (i : Nat) (w : World) (as cs : List Value), as.length = i → Box w g t (as ++ cs) → bs.length = cs.length → Box (setCells w g i bs) g t (as ++ bs)
  | [], i, w, as, cs, _, h, hl => by
    have : cs = [] := List.eq_nil_of_length_eq_zero (by simpa using hl.symm)
    subst this; exact h
  | b :: bs, i, w, as, [], _, _, hl => by simp at hl
  | b :: bs, i, w, as, c :: cs, hi, h, hl => by
    have h1 := h.set_ i b
    have e : (as ++ c :: cs).set i b = as ++ b :: cs := by subst hi; simp
    rw [e] at h1
    have := Box.setCells_aux bs (i + 1) (w.setCell ⟨g, i, none⟩ b) (as ++ [b]) cs (by simp [hi]) (by simpa using h1) (by simpa using hl)
    simpa [setCells] using this
theorem Box.setCells {w : World} {g : Nat} {t : TypeId} {cs : List Value} (h : Box w g t cs) (bs : List Value) (hl : bs.length = cs.length) : Box (setCells w g 0 bs) g t bs := by
  have := Box.setCells_aux bs 0 w [] cs rfl (by simpa using h) hl
  simpa using this
theorem below_setCells {B g : Nat} {a : World} (hg : B ≤ g) : ∀ (bs : List Value) (i : Nat) (w : World), Below B a w → Below B a (setCells w g i bs)
  | [], _, _, h => h
  | b :: bs, i, w, h => below_setCells hg bs (i + 1) _ (h.setCell (p := ⟨g, i, none⟩) hg b)
theorem Below.here (w : World) : Below w.heap.size w w := Below.refl _ _
theorem ret_b {a b : Bool} (h : a = b) : Ending.returned (.bool a) = .returned (.bool b) := by rw [h]
theorem ret_i {a b : Int} (h : a = b) : Ending.returned (.int .i64 a) = .returned (.int .i64 b) := by rw [h]
section
variable {α : Type} {sz by_ : Nat} {R : Rel α} {S : Nat → Prop} {w : World} {xs : List α}
/-- Where a slice that holds something lies. -/
theorem RSl.base {A : Option Addr} {n cap : Nat} (h : RSl sz by_ R S w [.slice A n cap] xs) (h0 : 0 < xs.length) : ∃ g o, A = some ⟨g, o, none⟩ ∧ S g ∧ g < w.heap.size := by
  obtain ⟨g, o, es, h1, h2, h3, _⟩ := h.at_ h0
  exact ⟨g, o, h1, h2, h3⟩
/-- The cells of an element. -/
theorem RSl.lies {g o n cap : Nat} (h : RSl sz by_ R S w [.slice (some ⟨g, o, none⟩) n cap] xs) {k : Nat} (hk : k < xs.length) : ∃ es, es.length = sz ∧ R S w es xs[k] ∧ Lies w g (o + k * sz) es := by
  obtain ⟨g', o', es, h1, _, _, h4, h5, h6⟩ := h.at_ hk
  simp only [Option.some.injEq, Addr.mk.injEq, and_true] at h1
  obtain ⟨rfl, rfl⟩ := h1
  exact ⟨es, h4, h5, h6⟩
theorem RSl.flat {enc : α → List Value} {g o n cap : Nat} (h : RSl sz by_ (RFlat enc) S w [.slice (some ⟨g, o, none⟩) n cap] xs) {k : Nat} (hk : k < xs.length) : Lies w g (o + k * sz) (enc xs[k]) := by
  obtain ⟨es, _, h2, h3⟩ := h.lies hk
  have h2' : es = enc xs[k] := h2
  rw [h2'] at h3
  exact h3
end
end Go.Proofs.YtaadnlopifaagaaDoor
