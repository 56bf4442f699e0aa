/- The comparisons of the reader's rows. -/
import Derived.Test.YtfobdbhmfohfnaaGreatDoorProg
import Derived.Test.YtfobdbhmfohfnaaGreatDoorBase
import Derived.Deep.DrawnRows
import Derived.Deep.Light
import Derived.Test.YtfobdbhmfohfnaaGreatDoorRefShelf
set_option linter.all false
set_option maxRecDepth 100000
set_option maxHeartbeats 8000000
namespace Go.Proofs.YtfobdbhmfohfnaaGreatDoor
open Go.RowKit
theorem cell_beside {w : World} {g i j : Nat} {u : Value} (h : i ≠ j) : (w.setCell ⟨g, i, none⟩ u).cell? ⟨g, j, none⟩ = w.cell? ⟨g, j, none⟩ := World.cell?_setCell_other _ _ _ _ (by intro e; simp only [Addr.mk.injEq] at e; omega)
theorem sortS_one {α : Type} {lt : α → α → Bool} (l : List α) : sortS lt (l.take 1) = l.take 1 := by
 cases l with
 | nil => rfl
 | cons x l => rfl
section
variable {α : Type} {base e sz g cap n : Nat} {R : Rel α} {T : Nat → Prop} {w : World} {xs : List α}
theorem own_lt (h : Own base e sz R T w (.slice (some ⟨g, 0, none⟩) n cap) xs) : g < w.heap.size := (h.lt (k := g) rfl).2
theorem own_not (h : Own base e sz R T w (.slice (some ⟨g, 0, none⟩) n cap) xs) : ¬ T g := by
 obtain ⟨_, _, _, h3, _⟩ := h
 exact h3 g rfl
end
def QItem (x : ItemD) : Prop := -1099511627776 ≤ x.n ∧ x.n ≤ 1099511627776 ∧ x.name.size ≤ 4000
def QField (x : FieldD) : Prop := -1099511627776 ≤ x.id ∧ x.id ≤ 1099511627776 ∧ x.name.size ≤ 4000 ∧ x.type.size ≤ 4000
theorem sgnItem (x y : ItemD) : ltItem x y = decide (x.n - y.n < 0) := by
 unfold ltItem
 by_cases h : x.n < y.n
 ·rw [decide_eq_true h, decide_eq_true (by omega)]
 ·rw [decide_eq_false h, decide_eq_false (by omega)]
theorem sgnField (x y : FieldD) : ltField x y = decide (x.id - y.id < 0) := by
 unfold ltField
 by_cases h : x.id < y.id
 ·rw [decide_eq_true h, decide_eq_true (by omega)]
 ·rw [decide_eq_false h, decide_eq_false (by omega)]
theorem cmpItem_any (S S' : Nat → Prop) (x y : ItemD) (cs cs' : List Value) (w : World) (hr : RItem S w cs x) (hr' : RItem S' w cs' y) (hx : QItem x) (hy : QItem y) : Calls Tryz.prog 67 #[.agg cs.toArray, .agg cs'.toArray] w (Ret w (.int .i64 (x.n - y.n))) := by
 have e1 : cs = itemCells x := hr
 have e2 : cs' = itemCells y := hr'
 subst e1 e2
 clear hr hr'
 obtain ⟨xn, xi⟩ := x
 obtain ⟨yn, yi⟩ := y
 unfold QItem at hx hy
 dsimp only [itemCells] at hx hy ⊢
 obtain ⟨x1, x2, x3⟩ := boxes2 w [.string xn, .int .i64 xi] [.string yn, .int .i64 yi] 60 60
 have e1 : IntKind.i64.wrap (xi - yi) = xi - yi := IntWalk.i64_in _ (by omega)
 clear hx hy
 go_enter Tryz.func67, Tryz.ntmps67
 go_wp2_with fail
 go_ret
 exact ⟨rfl, x3⟩
theorem cmpField_any (S S' : Nat → Prop) (x y : FieldD) (cs cs' : List Value) (w : World) (hr : RField S w cs x) (hr' : RField S' w cs' y) (hx : QField x) (hy : QField y) : Calls Tryz.prog 64 #[.agg cs.toArray, .agg cs'.toArray] w (Ret w (.int .i64 (x.id - y.id))) := by
 have e1 : cs = fieldCells x := hr
 have e2 : cs' = fieldCells y := hr'
 subst e1 e2
 clear hr hr'
 obtain ⟨x0, x1, x2, x3, x4⟩ := x
 obtain ⟨y0, y1, y2, y3, y4⟩ := y
 unfold QField at hx hy
 dsimp only [fieldCells] at hx hy ⊢
 obtain ⟨z1, z2, z3⟩ := boxes2 w [.int .i64 x0, .string x1, .string x2, .int .i64 x3, .int .i64 x4] [.int .i64 y0, .string y1, .string y2, .int .i64 y3, .int .i64 y4] 44 44
 have e1 : IntKind.i64.wrap (x0 - y0) = x0 - y0 := IntWalk.i64_in _ (by omega)
 clear hx hy
 go_enter Tryz.func64, Tryz.ntmps64
 go_wp2_with fail
 go_ret
 exact ⟨rfl, z3⟩
def QType (_ : TypeD) : Prop := True
def cmpS (a b : ByteArray) : Int := Lib.compareBytes a.data.toList b.data.toList
theorem sgn_bytes : ∀ (a b : List UInt8), Op.bytesLess a b = decide (Lib.compareBytes a b < 0)
 | [], [] => by simp [Op.bytesLess, Lib.compareBytes]
 | [], _ :: _ => by simp [Op.bytesLess, Lib.compareBytes]
 | _ :: _, [] => by simp [Op.bytesLess, Lib.compareBytes]
 | a :: x, b :: y => by
  rw [Op.bytesLess, Lib.compareBytes, sgn_bytes x y]
  by_cases h1 : a < b
  ·simp [h1]
  ·by_cases h2 : b < a
   ·have h3 : a ≠ b := fun e => by subst e; exact h1 h2
    simp [h1, h2, h3]
   ·have h3 : a = b := UInt8.le_antisymm (UInt8.not_lt.1 h2) (UInt8.not_lt.1 h1)
    subst h3
    simp [h1]
theorem sgnType (x y : TypeD) : ltType x y = decide (cmpS x.name y.name < 0) := by
 have e : ltS x.name y.name = (Op.bytesLess x.name.data.toList y.name.data.toList = true) := by unfold ltS; rw [ByteArray.toList_eq, ByteArray.toList_eq]
 unfold ltType cmpS
 rw [← sgn_bytes]
 by_cases h : ltS x.name y.name
 ·rw [decide_eq_true h]
  rw [e] at h; exact h.symm
 ·rw [decide_eq_false h]
  rw [e] at h
  simpa using h
theorem cmpType_any (S S' : Nat → Prop) (x y : TypeD) (cs cs' : List Value) (w : World) (hr : RType S w cs x) (hr' : RType S' w cs' y) (_ : QType x) (_ : QType y) : Calls Tryz.prog 40 #[.agg cs.toArray, .agg cs'.toArray] w (Ret w (.int .i64 (cmpS x.name y.name))) := by
 obtain ⟨F, p, G, q, I, r, rfl, -, -, -⟩ := hr.parts
 obtain ⟨F2, p2, G2, q2, I2, r2, rfl, -, -, -⟩ := hr'.parts
 clear hr hr'
 obtain ⟨z1, z2, z3⟩ := boxes2 w [.string x.name, .bool x.enum, .slice F x.fields.length p, .slice G x.gone.length q, .slice I x.items.length r] [.string y.name, .bool y.enum, .slice F2 y.fields.length p2, .slice G2 y.gone.length q2, .slice I2 y.items.length r2] 40 40
 go_enter Tryz.func40, Tryz.ntmps40
 go_wp2_with fail
 refine (Tryz.strings_Compare _ _ _).mono ?_
 rintro e w1 ⟨rfl, rfl⟩
 go_wp2_with fail
 go_ret
 exact ⟨rfl, z3⟩
end Go.Proofs.YtfobdbhmfohfnaaGreatDoor
