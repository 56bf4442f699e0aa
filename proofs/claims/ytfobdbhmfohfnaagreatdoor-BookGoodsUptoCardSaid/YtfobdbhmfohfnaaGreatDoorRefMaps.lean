/- A map of numbers by texts, known by what it answers. -/
import Derived.Test.YtfobdbhmfohfnaaGreatDoorProg
import Derived.Test.YtfobdbhmfohfnaaGreatDoorBookGood
import Derived.StringKeys
import Derived.Carry
import Derived.Maps.OwnSet
import Derived.Maps.OwnOps
set_option linter.all false
namespace Go.Proofs.YtfobdbhmfohfnaaGreatDoor
open Go.RowKit Go.Maps
theorem law_str : Keyed Tryz.prog 9 := string_keyed Tryz.underlying9
theorem zero_int (w : World) : (zeroValue 3).run Tryz.prog w = .ok (.int .i64 0) w := by kernel_rfl
def keyS (x : ByteArray) : Lit := .string x.data.toList
def MapS (w : World) (b n : Nat) (f : ByteArray → Int) (h : ByteArray → Bool) : Prop :=
 ∃ D : DataW Nat, w.ownsMap Tryz.prog 9 (plainElem Tryz.prog 3) b n D ∧ ∀ x, D.atKey (keyS x) (.lit (.int .i64 0)) = .lit (.int .i64 (f x)) ∧ Maps.has D (keyS x) = h x
theorem key_of {x : ByteArray} (hx : x.size ≤ 140737488351232) : keyOf Tryz.prog 9 (.string x) = some (keyS x) :=
 WideMaps.keyOf_string_mk Tryz.underlying9 (Nat.le_trans hx (by unfold maxLen; decide))
theorem key_any {x : ByteArray} (hx : x.size ≤ 9223372036854775807) : keyOf Tryz.prog 9 (.string x) = some (keyS x) := WideMaps.keyOf_string_mk Tryz.underlying9 (Nat.le_trans hx (by unfold maxLen; decide))
theorem keyS_inj {x y : ByteArray} (h : keyS x = keyS y) : x = y := by
 have : x.data.toList = y.data.toList := by injection h
 cases x; cases y; simp_all [Array.toList_inj]
theorem MapS.made (w : World) : MapS (w.alloc (.map #[] 0)) w.heap.size 0 (fun _ => 0) (fun _ => false) :=
 ⟨.map [], World.ownsMap_made _ _ _ _, fun _ => ⟨rfl, rfl⟩⟩
theorem MapS.lt {w : World} {b n : Nat} {f : ByteArray → Int} {h : ByteArray → Bool} (H : MapS w b n f h) : b < w.heap.size := by
 obtain ⟨D, h1, _⟩ := H; exact h1.lt
theorem MapS.alloc {w : World} {b n : Nat} {f : ByteArray → Int} {h : ByteArray → Bool} (H : MapS w b n f h) (o : Obj) : MapS (w.alloc o) b n f h := by
 obtain ⟨D, h1, h2⟩ := H; exact ⟨D, h1.alloc o, h2⟩
theorem MapS.drewN {w : World} {b n : Nat} {f : ByteArray → Int} {h : ByteArray → Bool} (H : MapS w b n f h) (m : Nat) : MapS (w.drewN m) b n f h := by
 obtain ⟨D, h1, h2⟩ := H; exact ⟨D, h1, h2⟩
theorem MapS.below {w w' : World} {b n : Nat} {f : ByteArray → Int} {h : ByteArray → Bool} (H : MapS w b n f h) (hb : Below w.heap.size w w') : MapS w' b n f h := by
 obtain ⟨D, h1, h2⟩ := H; exact ⟨D, h1.kept (grown_below hb none) (by simp), h2⟩
theorem MapS.mono {w : World} {b n n' : Nat} {f : ByteArray → Int} {h : ByteArray → Bool} (H : MapS w b n f h) (hn : n ≤ n') : MapS w b n' f h := by
 obtain ⟨D, h1, h2⟩ := H; exact ⟨D, h1.mono hn, h2⟩
theorem MapS.kept {w w' : World} {b n : Nat} {f : ByteArray → Int} {h : ByteArray → Bool} {row : Option Nat} (H : MapS w b n f h) (hg : w.grownBy w' row) (hne : some b ≠ row) : MapS w' b n f h := by
 obtain ⟨D, h1, h2⟩ := H; exact ⟨D, h1.kept hg hne, h2⟩
theorem MapS.congr {w : World} {b n : Nat} {f g : ByteArray → Int} {h k : ByteArray → Bool} (H : MapS w b n f h) (e1 : ∀ x, f x = g x) (e2 : ∀ x, h x = k x) : MapS w b n g k := by
 obtain ⟨D, h1, h2⟩ := H; exact ⟨D, h1, fun x => by rw [← e1, ← e2]; exact h2 x⟩
theorem MapS.look_any {w : World} {b n : Nat} {f : ByteArray → Int} {h : ByteArray → Bool} (H : MapS w b n f h) {x : ByteArray} (hx : x.size ≤ 9223372036854775807) :
  (Instr.lookup 86 (.map (some b)) (.string x) false).run Tryz.prog w = .ok (.int .i64 (f x)) w := by
 obtain ⟨D, h1, h2⟩ := H
 obtain ⟨c, hr, hc, -⟩ := h1.lookup_int law_str Tryz.underlying86 Tryz.underlying3 (zero_int w) (key_any hx)
 rw [hr]
 have := (h2 x).1
 rw [hc] at this
 simp only [DataW.lit.injEq, Lit.int.injEq, true_and] at this
 rw [this]
theorem MapS.look {w : World} {b n : Nat} {f : ByteArray → Int} {h : ByteArray → Bool} (H : MapS w b n f h) {x : ByteArray} (hx : x.size ≤ 140737488351232) :
  (Instr.lookup 86 (.map (some b)) (.string x) false).run Tryz.prog w = .ok (.int .i64 (f x)) w := H.look_any (Nat.le_trans hx (by decide))
theorem MapS.look_ok {w : World} {b n : Nat} {f : ByteArray → Int} {h : ByteArray → Bool} (H : MapS w b n f h) {x : ByteArray} (hx : x.size ≤ 140737488351232) :
  (Instr.lookup 86 (.map (some b)) (.string x) true).run Tryz.prog w = .ok (.tuple #[.int .i64 (f x), .bool (h x)]) w := by
 obtain ⟨D, h1, h2⟩ := H
 obtain ⟨v, ps, hr, hv⟩ := h1.look_ok law_str Tryz.underlying86 (zero_int w) (plainElem_int Tryz.underlying3 (by decide)) (key_of hx)
 obtain ⟨c, rfl, hc, -⟩ := plainElem_int_inv Tryz.underlying3 hv
 rw [hr, (h2 x).2]
 have := (h2 x).1
 rw [Prod.mk.injEq] at hc
 rw [hc.1] at this
 simp only [DataW.lit.injEq, Lit.int.injEq, true_and] at this
 rw [this]
theorem MapS.put {w : World} {b n : Nat} {f : ByteArray → Int} {h : ByteArray → Bool} (H : MapS w b n f h) {x : ByteArray} (hx : x.size ≤ 140737488351232) (hn : n ≤ 4000000000000) {v : Int} (hv : (Lit.int .i64 v).wf = true) :
  ∃ w', (Instr.mapUpdate 86 (.map (some b)) (.string x) (.int .i64 v)).run Tryz.prog w = .ok () w' ∧ MapS w' b (n + 1) (fun y => if y = x then v else f y) (fun y => if y = x then true else h y) ∧ w.grownBy w' (some b) := by
 obtain ⟨D, h1, h2⟩ := H
 obtain ⟨w', hr, h3, hg⟩ := h1.update law_str Tryz.underlying86 (Nat.lt_of_le_of_lt hn (by unfold maxLen; decide)) (key_of hx) (plainElem_int Tryz.underlying3 hv)
 refine ⟨w', hr, ⟨_, h3, fun y => ?_⟩, hg⟩
 have hM : IsMap D := h1.isMap
 by_cases hy : y = x
 ·subst hy
  simp only [if_true]
  exact ⟨atKey_put_same hM (by first | trivial | simp [keyS, WideAt.IsKeyLit]) _ _, has_put_same hM (by first | trivial | simp [keyS, WideAt.IsKeyLit]) _⟩
 ·have hne : keyS y ≠ keyS x := fun e => hy (keyS_inj e)
  simp only [if_neg hy]
  rw [atKey_put_other hne, has_put_other hne]
  exact h2 y
end Go.Proofs.YtfobdbhmfohfnaaGreatDoor
