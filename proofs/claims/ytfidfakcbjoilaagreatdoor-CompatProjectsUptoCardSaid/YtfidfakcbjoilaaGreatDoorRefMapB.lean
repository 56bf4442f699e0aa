/- Maps of truths by pairs of names and by flaws, known by what they answer. -/
import Derived.Test.YtfidfakcbjoilaaGreatDoorProg
import Derived.Test.YtfidfakcbjoilaaGreatDoorCLaws
import Derived.DeepKeys5
import Derived.StringKeys
import Derived.Carry
import Derived.Maps.OwnSet
import Derived.Maps.OwnOps
set_option linter.all false
namespace Go.Proofs.YtfidfakcbjoilaaGreatDoor
open Go.RowKit Go.Maps
theorem laid_out : laidOutB Tryz.prog = true := by kernel_rfl
theorem law_pair : Keyed Tryz.prog 89 := Keyed.of_law (deep_law_gate laid_out (of_decide_eq_true (by kernel_rfl)) (of_decide_eq_true (by kernel_rfl)) (by kernel_rfl) (by kernel_rfl))
theorem law_flaw : Keyed Tryz.prog 60 := Keyed.of_law (deep_law_gate laid_out (of_decide_eq_true (by kernel_rfl)) (of_decide_eq_true (by kernel_rfl)) (by kernel_rfl) (by kernel_rfl))
def keyV (q : ByteArray × ByteArray) : Value := .agg #[.string q.1, .string q.2]
def flawV (f : FlawD) : Value := .agg #[.string f.type, .int .i64 f.id, .int .i64 f.why]
theorem size_str : Tryz.prog.cellsOf 9 = 1 := by kernel_rfl
theorem size_int : Tryz.prog.cellsOf 3 = 1 := by kernel_rfl
theorem size_two : Tryz.prog.cellsOf 89 = 2 := by kernel_rfl
theorem size_flaw : Tryz.prog.cellsOf 60 = 3 := by kernel_rfl
theorem key_two : Tryz.prog.keyType 89 = true := by kernel_rfl
theorem key_flaw : Tryz.prog.keyType 60 = true := by kernel_rfl
theorem types_some : ∃ m, Tryz.prog.types.size = m + 1 := ⟨Tryz.prog.types.size - 1, by have : 0 < Tryz.prog.types.size := of_decide_eq_true (by kernel_rfl); omega⟩
theorem key_pair {a b : ByteArray} (ha : a.size ≤ maxLen) (hb : b.size ≤ maxLen) : keyOf Tryz.prog 89 (keyV (a, b)) = some (.string (keyBytes [.string a.data.toList, .string b.data.toList])) := by
 obtain ⟨m, hm⟩ := types_some
 unfold keyOf keyV
 simp only [Tryz.underlying89]
 rw [if_pos (by simp [key_two, Value.formed, Tryz.underlying89, size_two]), hm]
 unfold Program.keyLits
 simp only [Tryz.underlying89, Value.cells]
 rw [if_pos (by rw [size_two]; rfl), show List.range 2 = [0, 1] from rfl, List.mapM_cons, List.mapM_cons, List.mapM_nil]
 simp [size_str, Program.keyLits, Tryz.underlying9, ha, hb]
theorem key_of_flaw {f : FlawD} (ha : f.type.size ≤ maxLen) (h1 : (Lit.int .i64 f.id).wf = true) (h2 : (Lit.int .i64 f.why).wf = true) : ∃ l, keyOf Tryz.prog 60 (flawV f) = some l := by
 obtain ⟨m, hm⟩ := types_some
 refine ⟨.string (keyBytes [.string f.type.data.toList, .int .i64 f.id, .int .i64 f.why]), ?_⟩
 unfold keyOf flawV
 simp only [Tryz.underlying60]
 rw [if_pos (by simp [key_flaw, Value.formed, Tryz.underlying60, size_flaw]), hm]
 unfold Program.keyLits
 simp only [Tryz.underlying60, Value.cells]
 rw [if_pos ⟨by rw [size_flaw]; rfl, by kernel_rfl⟩]
 simp [size_str, size_int, Program.keyLits, Tryz.underlying9, Tryz.underlying3, ha, h1, h2]
section
variable {α : Type} {k t : TypeId} {enc : α → Value}
def MapB (k : TypeId) (enc : α → Value) (w : World) (b n : Nat) (h : α → Bool) : Prop :=
 ∃ D : DataW Nat, w.ownsMap Tryz.prog k (plainElem Tryz.prog 4) b n D ∧ ∀ x l, keyOf Tryz.prog k (enc x) = some l → D.atKey l (.lit (.bool false)) = .lit (.bool (h x))
theorem MapB.made (w : World) : MapB k enc (w.alloc (.map #[] 0)) w.heap.size 0 (fun _ => false) :=
 ⟨.map [], World.ownsMap_made _ _ _ _, fun _ _ _ => rfl⟩
variable {w w' : World} {b n : Nat} {h : α → Bool}
theorem MapB.lt (H : MapB k enc w b n h) : b < w.heap.size := by obtain ⟨D, h1, _⟩ := H; exact h1.lt
theorem MapB.alloc (H : MapB k enc w b n h) (o : Obj) : MapB k enc (w.alloc o) b n h := by obtain ⟨D, h1, h2⟩ := H; exact ⟨D, h1.alloc o, h2⟩
theorem MapB.below (H : MapB k enc w b n h) (hb : Below w.heap.size w w') : MapB k enc w' b n h := by obtain ⟨D, h1, h2⟩ := H; exact ⟨D, h1.kept (grown_below hb none) (by simp), h2⟩
theorem MapB.mono (H : MapB k enc w b n h) {n' : Nat} (hn : n ≤ n') : MapB k enc w b n' h := by obtain ⟨D, h1, h2⟩ := H; exact ⟨D, h1.mono hn, h2⟩
theorem MapB.kept {row : Option Nat} (H : MapB k enc w b n h) (hg : w.grownBy w' row) (hne : some b ≠ row) : MapB k enc w' b n h := by obtain ⟨D, h1, h2⟩ := H; exact ⟨D, h1.kept hg hne, h2⟩
theorem MapB.congr {g : α → Bool} (H : MapB k enc w b n h) (e : ∀ x, h x = g x) : MapB k enc w b n g := by obtain ⟨D, h1, h2⟩ := H; exact ⟨D, h1, fun x l hl => by rw [← e]; exact h2 x l hl⟩
theorem plainElem_bool_inv {e : TypeId} {P : Program} (he : P.underlying e = some .bool) {v : Value} {z : DataW Nat × List MemPlace} (h : plainElem P e v = some z) : ∃ a, v = .bool a ∧ z = (.lit (.bool a), []) := by
 unfold plainElem at h
 rw [he] at h
 cases v <;> simp at h
 ·exact ⟨_, rfl, h.symm⟩
theorem MapB.look (H : MapB k enc w b n h) (K : Keyed Tryz.prog k) (ht : Tryz.prog.underlying t = some (.map k 4)) {x : α} (hx : ∃ l, keyOf Tryz.prog k (enc x) = some l) :
  (Instr.lookup t (.map (some b)) (enc x) false).run Tryz.prog w = .ok (.bool (h x)) w := by
 obtain ⟨D, h1, h2⟩ := H
 obtain ⟨l, hl⟩ := hx
 obtain ⟨v, ps, hrun, hv⟩ := h1.lookup K ht (z := .bool false) (by kernel_rfl) (plainElem_bool Tryz.underlying4 false) hl
 obtain ⟨c, rfl, hc⟩ := plainElem_bool_inv Tryz.underlying4 hv
 rw [Prod.mk.injEq] at hc
 have := h2 x l hl
 rw [hc.1] at this
 simp only [DataW.lit.injEq, Lit.bool.injEq] at this
 rw [hrun, this]
theorem MapB.put [DecidableEq α] (H : MapB k enc w b n h) (K : Keyed Tryz.prog k) (ht : Tryz.prog.underlying t = some (.map k 4)) (hinj : ∀ x y, enc x = enc y → x = y) {x : α} (hx : ∃ l, keyOf Tryz.prog k (enc x) = some l) (hn : n ≤ 1048576) :
  ∃ w', (Instr.mapUpdate t (.map (some b)) (enc x) (.bool true)).run Tryz.prog w = .ok () w' ∧ MapB k enc w' b (n + 1) (fun y => decide (y = x) || h y) ∧ w.grownBy w' (some b) := by
 obtain ⟨D, h1, h2⟩ := H
 obtain ⟨l, hl⟩ := hx
 obtain ⟨w', hr, h3, hg⟩ := h1.update K ht (Nat.lt_of_le_of_lt hn (by unfold maxLen; decide)) hl (plainElem_bool Tryz.underlying4 true)
 refine ⟨w', hr, ⟨_, h3, fun y m hm => ?_⟩, hg⟩
 have hM : IsMap D := h1.isMap
 by_cases hy : y = x
 ·subst hy
  have : m = l := by rw [hl] at hm; exact (Option.some.inj hm).symm
  subst this
  simp only [decide_true, Bool.true_or]
  exact atKey_put_same hM (K.key hl) _ _
 ·have hne : m ≠ l := fun e => hy (hinj _ _ (K.inj hm (e ▸ hl)))
  simp only [hy, decide_false, Bool.false_or]
  rw [atKey_put_other hne]
  exact h2 y m hm
end
theorem keyV_inj : ∀ x y : ByteArray × ByteArray, keyV x = keyV y → x = y := by
 rintro ⟨a, b⟩ ⟨c, d⟩ h
 simp only [keyV, Value.agg.injEq, Array.mk.injEq, List.cons.injEq, Value.string.injEq, and_true] at h
 obtain ⟨rfl, rfl⟩ := h; rfl
theorem flawV_inj : ∀ x y : FlawD, flawV x = flawV y → x = y := by
 rintro ⟨a, b, c⟩ ⟨d, e, f⟩ h
 simp only [flawV, Value.agg.injEq, Array.mk.injEq, List.cons.injEq, Value.string.injEq, Value.int.injEq, true_and, and_true] at h
 obtain ⟨rfl, rfl, rfl⟩ := h; rfl
end Go.Proofs.YtfidfakcbjoilaaGreatDoor
