/- A value that is being built: its box and its two rows. -/
import Derived.Test.YtfidfakcbjoilaaGreatDoorValueFits
import Derived.Test.YtfidfakcbjoilaaGreatDoorVLaws
import Derived.Test.YtfidfakcbjoilaaGreatDoorLates
import Derived.Test.YtfidfakcbjoilaaGreatDoorBase
import Derived.Deep.DrawnRows
set_option linter.all false
namespace Go.Proofs.YtfidfakcbjoilaaGreatDoor
open Go.RowKit
theorem sl_ints : SlInfo Tryz.prog 34 3 1 8 := SlInfo.mk (z := .int .i64 0) Tryz.underlying34 (by decide) (by decide) (by kernel_rfl) rfl
theorem sl_vals : SlInfo Tryz.prog 35 37 5 80 := SlInfo.mk (z := .agg #[.int .i64 0, .int .i64 0, .string .empty, .slice none 0 0, .slice none 0 0]) Tryz.underlying35 (by decide) (by decide) (by kernel_rfl) rfl
def Apart (U : Nat → Prop) (g : Nat) (vi vl : Value) : Nat → Prop := fun x => x ≠ g ∧ vi.ownBlock ≠ some x ∧ vl.ownBlock ≠ some x ∧ U x
structure Rows2 (U : Nat → Prop) (base : Nat) (w : World) (g : Nat) (vi vl : Value) (ids : List Int) (l : List ValueD) : Prop where
 hi : g < base
 hb : base ≤ w.heap.size
 ids : Own base 3 1 RInt NoT w vi ids
 l : Own base 37 5 RVal (Apart U g vi vl) w vl l
 nil : ∀ x, vi.ownBlock = some x → vl.ownBlock ≠ some x
section
variable {U : Nat → Prop} {base : Nat} {w w' : World} {g : Nat} {vi vl v' : Value} {ids : List Int} {l : List ValueD}
theorem Rows2.new (U : Nat → Prop) (base : Nat) (w : World) (g : Nat) (hb : g < base) (hg : base ≤ w.heap.size) : Rows2 U base w g (.slice none 0 0) (.slice none 0 0) [] [] :=
 ⟨hb, hg, Own.nil_ _ _ _ _ _ _, Own.nil_ _ _ _ _ _ _, by simp [Value.ownBlock]⟩
theorem Rows2.below (h : Rows2 U base w g vi vl ids l) (hb : Below w.heap.size w w') : Rows2 U base w' g vi vl ids l :=
 ⟨h.hi, Nat.le_trans h.hb hb.size, h.ids.below RInt.fair hb, h.l.below RVal.fair hb, h.nil⟩
theorem Rows2.alloc (h : Rows2 U base w g vi vl ids l) (o : Obj) : Rows2 U base (w.alloc o) g vi vl ids l := h.below ((Below.refl _ _).alloc (Nat.le_refl _) o)
theorem Rows2.drewN (h : Rows2 U base w g vi vl ids l) (n : Nat) : Rows2 U base (w.drewN n) g vi vl ids l := h.below (below_drewN (Below.refl _ _) n)
theorem Rows2.drew (h : Rows2 U base w g vi vl ids l) : Rows2 U base w.drew g vi vl ids l := h.below (below_drew (Below.refl _ _))
theorem Rows2.ilt (h : Rows2 U base w g vi vl ids l) {x : Nat} (hx : vi.ownBlock = some x) : base ≤ x ∧ x < w.heap.size := h.ids.lt hx
theorem Rows2.llt (h : Rows2 U base w g vi vl ids l) {x : Nat} (hx : vl.ownBlock = some x) : base ≤ x ∧ x < w.heap.size := h.l.lt hx
theorem Rows2.nei (h : Rows2 U base w g vi vl ids l) {x : Nat} (hx : x < base) : vi.ownBlock ≠ some x := fun e => by have := (h.ilt e).1; omega
theorem Rows2.nel (h : Rows2 U base w g vi vl ids l) {x : Nat} (hx : x < base) : vl.ownBlock ≠ some x := fun e => by have := (h.llt e).1; omega
theorem Rows2.setCell (h : Rows2 U base w g vi vl ids l) (i : Nat) (u : Value) : Rows2 U base (w.setCell ⟨g, i, none⟩ u) g vi vl ids l :=
 ⟨h.hi, by have := h.hb; simpa [World.setCell] using this, h.ids.setCell RInt.fair u (h.nei h.hi) (fun h => h.elim), h.l.setCell RVal.fair u (h.nel h.hi) (fun hh => hh.1 rfl), h.nil⟩
theorem Rows2.far (h : Rows2 U base w g vi vl ids l) {p : Addr} (hi : vi.ownBlock ≠ some p.block) (hl : vl.ownBlock ≠ some p.block) (hT : ¬ U p.block) (u : Value) : Rows2 U base (w.setCell p u) g vi vl ids l :=
 ⟨h.hi, by have := h.hb; simpa [World.setCell] using this, h.ids.setCell RInt.fair u hi (fun h => h.elim), h.l.setCell RVal.fair u hl (fun hh => hT hh.2.2.2), h.nil⟩
theorem Rows2.low (h : Rows2 U base w g vi vl ids l) : Rows2 (fun y => U y ∧ y < w.heap.size) base w g vi vl ids l :=
 ⟨h.hi, h.hb, h.ids, h.l.mono RVal.fair (fun x hx hl => ⟨hx.1, hx.2.1, hx.2.2.1, hx.2.2.2, hl⟩) (fun k hk hh => hh.2.2.1 hk), h.nil⟩
theorem Rows2.up {U' : Nat → Prop} (h : Rows2 U base w g vi vl ids l) (hU : ∀ y, U y → U' y) : Rows2 U' base w g vi vl ids l :=
 ⟨h.hi, h.hb, h.ids, h.l.mono RVal.fair (fun x hx _ => ⟨hx.1, hx.2.1, hx.2.2.1, hU x hx.2.2.2⟩) (fun k hk hh => hh.2.2.1 hk), h.nil⟩
theorem Rows2.push_id (h : Rows2 U base w g vi vl ids l) {ids' : List Int} (ho : Own base 3 1 RInt NoT w' v' ids') (hg : w.grownBy w' vi.ownBlock) (hv : v'.ownBlock = vi.ownBlock ∨ v'.ownBlock = some w.heap.size) : Rows2 U base w' g v' vl ids' l := by
 refine ⟨h.hi, Nat.le_trans h.hb hg.size, ho, ?_, ?_⟩
 ·have h1 : Own base 37 5 RVal (fun x => Apart U g vi vl x ∧ x < w.heap.size) w vl l := h.l.mono RVal.fair (fun x hx hl => ⟨hx, hl⟩) (fun k hk hh => hh.1.2.2.1 hk)
  have h2 : Own base 37 5 RVal (fun x => Apart U g vi vl x ∧ x < w.heap.size) w' vl l := h1.kept RVal.fair hg (by
   cases hvi : vi.ownBlock with
   | none => cases hvl : vl.ownBlock <;> simp
   | some x => exact .inr (h.nil x hvi)) (fun k hk hh => hh.1.2.1 hk)
  refine h2.mono RVal.fair (fun x hx _ => ⟨hx.1.1, ?_, hx.1.2.2.1, hx.1.2.2.2⟩) (fun k hk hh => hh.2.2.1 hk)
  rcases hv with hv | hv
  ·rw [hv]; exact hx.1.2.1
  ·rw [hv]; intro e; injection e with e; omega
 ·intro x hx hl
  rcases hv with hv | hv
  ·exact h.nil x (hv ▸ hx) hl
  ·rw [hv] at hx; injection hx with hx
   have := (h.llt hl).2; omega
theorem Rows2.lrow (h : Rows2 U base w g vi vl ids l) : Own base 37 5 RVal (fun x => Apart U g vi vl x ∧ x < w.heap.size) w vl l := h.l.mono RVal.fair (fun x hx hl => ⟨hx, hl⟩) (fun k hk hh => hh.1.2.2.1 hk)
theorem Rows2.push_l (h : Rows2 U base w g vi vl ids l) {l' : List ValueD} (ho : Own base 37 5 RVal (fun x => Apart U g vi vl x ∧ x < w.heap.size) w' v' l') (hg : w.grownBy w' vl.ownBlock) (hv : v'.ownBlock = vl.ownBlock ∨ v'.ownBlock = some w.heap.size) : Rows2 U base w' g vi v' ids l' := by
 refine ⟨h.hi, Nat.le_trans h.hb hg.size, ?_, ?_, ?_⟩
 ·exact h.ids.kept RInt.fair hg (by
   cases hvi : vi.ownBlock with
   | none => exact .inl rfl
   | some x => exact .inr (fun e => h.nil x hvi e.symm)) (fun k _ hh => hh)
 ·refine ho.mono RVal.fair (fun x hx _ => ⟨hx.1.1, hx.1.2.1, ?_, hx.1.2.2.2⟩) (fun k hk hh => hh.2.2.1 hk)
  rcases hv with hv | hv
  ·rw [hv]; exact hx.1.2.2.1
  ·rw [hv]; intro e; injection e with e; omega
 ·intro x hx hl
  rcases hv with hv | hv
  ·exact h.nil x hx (hv ▸ hl)
  ·rw [hv] at hl; injection hl with hl
   have := (h.ilt hx).2; omega
theorem Rows2.apart {w0 : World} (h : Rows2 U base w0 g vi vl ids l) {S : Nat → Prop} {cs : List Value} {x : ValueD} (hr : RVal S w cs x) (hS : ∀ y, S y → y < w.heap.size → (w0.heap.size ≤ y ∨ (y < base ∧ y ≠ g)) ∧ U y) : RVal (fun y => Apart U g vi vl y ∧ y < w.heap.size) w cs x :=
 RVal.fair.mono hr fun y hy hl => by
  obtain ⟨hS, hU⟩ := hS _ hy hl
  refine ⟨⟨?_, ?_, ?_, hU⟩, hl⟩
  ·rintro rfl
   have := h.hi; have := h.hb
   rcases hS with h1 | h1 <;> omega
  ·intro e
   have := h.ilt e
   rcases hS with h1 | h1 <;> omega
  ·intro e
   have := h.llt e
   rcases hS with h1 | h1 <;> omega
end
theorem Rows2.read {U : Nat → Prop} {base : Nat} {w : World} {g : Nat} {vi vl : Value} {ids : List Int} {l : List ValueD} (h : Rows2 U base w g vi vl ids l) {S : Nat → Prop} (hS : ∀ y, base ≤ y → S y) (hA : ∀ y, U y → S y) (hi : ids.length ≤ 1000000000000) (hl : l.length ≤ 1000000000000) (k n : Int) (s : ByteArray) :
  RVal S w [.int .i64 k, .int .i64 n, .string s, vi, vl] (.mk k n s ids l) :=
 RVal.mk (h.ids.read RInt.fair (fun _ h => h.elim) (fun x hx => hS x (h.ilt hx).1) (by omega)) (h.l.read RVal.fair (fun y hy _ => hA y hy.2.2.2) (fun x hx => hS x (h.llt hx).1) (by omega))
theorem Rows2.farCells {U : Nat → Prop} {base : Nat} {g g' : Nat} {vi vl : Value} {ids : List Int} {l : List ValueD} (hi : vi.ownBlock ≠ some g') (hl : vl.ownBlock ≠ some g') (hT : ¬ U g') : ∀ (bs : List Value) (i : Nat) {w : World}, Rows2 U base w g vi vl ids l → Rows2 U base (Go.Proofs.YtfidfakcbjoilaaGreatDoor.setCells w g' i bs) g vi vl ids l
 | [], _, _, h => h
 | b :: bs, i, _, h => Rows2.farCells hi hl hT bs (i + 1) (h.far (p := ⟨g', i, none⟩) hi hl hT b)
theorem Rows2.apart2 {U : Nat → Prop} {base : Nat} {w : World} {g : Nat} {vi vl : Value} {ids : List Int} {l : List ValueD} (_ : Rows2 U base w g vi vl ids l) {S : Nat → Prop} {cs : List Value} {x : ValueD} (hr : RVal S w cs x)
  (hS : ∀ y, S y → y ≠ g ∧ vi.ownBlock ≠ some y ∧ vl.ownBlock ≠ some y ∧ U y) : RVal (fun y => Apart U g vi vl y ∧ y < w.heap.size) w cs x := RVal.fair.mono hr fun y hy hl => ⟨hS y hy, hl⟩
end Go.Proofs.YtfidfakcbjoilaaGreatDoor
