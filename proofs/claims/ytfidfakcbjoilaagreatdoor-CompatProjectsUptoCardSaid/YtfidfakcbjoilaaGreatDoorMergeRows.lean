/- Rows of the call's own in the words of the sort. Nothing here names the program. -/
import Derived.Test.YtfidfakcbjoilaaGreatDoorBase
import Derived.Sort.Grow
import Derived.Sort.EncStr
set_option linter.all false
namespace Go.Proofs.YtfidfakcbjoilaaGreatDoor
open Go.RowKit Go.Sort
section
variable {α β : Type} [Inhabited β] {base e : Nat} {R : Rel α} {w : World} {xs : List α}
theorem Own.holds {enc : β → Value} {g cap n : Nat} {ys : List β} (h : Own base e 1 R NoT w (.slice (some ⟨g, 0, none⟩) n cap) xs) (hl : ys.length = xs.length)
  (hv : ∀ (k : Nat) (x : α) (y : β) (cs : List Value), xs[k]? = some x → ys[k]? = some y → R NoT w cs x → cs = [enc y]) : Holds enc w g 0 ys.toArray := by
 obtain ⟨css, h1, h2, h3, h4⟩ := h
 have hfr : ∀ i, w.frozen? ⟨g, i, none⟩ = false := by
  intro i
  rcases h1.2 with ⟨h0, _⟩ | ⟨g', cap', cur, h0, _, hh, _⟩
  ·cases h0
  ·simp only [Value.slice.injEq, Option.some.injEq, Addr.mk.injEq] at h0
   obtain ⟨⟨rfl, _, _⟩, _, _⟩ := h0
   simp [World.frozen?, hh]
 intro j hj
 have hj' : j < ys.length := by simpa using hj
 refine ⟨?_, hfr _⟩
 have hx : xs[j]? = some (xs[j]'(by omega)) := List.getElem?_eq_getElem (by omega)
 have hy : ys[j]? = some ys[j] := List.getElem?_eq_getElem hj'
 have hc : css[j]? = some (css[j]'(by omega)) := List.getElem?_eq_getElem (by omega)
 obtain ⟨hl1, hr⟩ := h4 j _ _ hx hc
 have hcs := hv j _ _ _ hx hy hr
 have hall : ∀ x ∈ css, x.length = 1 := by
  intro c hc
  obtain ⟨i, hi, rfl⟩ := List.getElem_of_mem hc
  exact (h4 i (xs[i]'(by omega)) _ (List.getElem?_eq_getElem (by omega)) (List.getElem?_eq_getElem hi)).1
 have hfl := flatten_get css 1 j 0 _ hall hc (by omega)
 rw [hcs] at hfl
 have := h1.cells (g := g) rfl (j * 1 + 0) (enc ys[j]) (by rw [hfl]; rfl)
 have hadd : (⟨g, 0, none⟩ : Addr).add (j * 1 + 0) = ⟨g, 0 + j, none⟩ := by unfold Addr.add; split <;> simp_all
 rw [hadd] at this
 rw [this]
 congr 2
 simp [getElem!_pos, hj']
end
theorem Lies.newAt {w : World} {g : Nat} {cs : List Value} {e : TypeId} (h : g = w.heap.size) : Lies (w.alloc (.cells cs.toArray e)) g 0 cs := h ▸ Lies.new w cs e
theorem heap_putRow {β : Type} [Inhabited β] (enc : β → Value) (w : World) (g off : Nat) (d : Array β) (k : Nat) (h : k ≠ g) : (putRow enc w g off d).heap[k]? = w.heap[k]? := by
 simp only [putRow, mapBlock, Array.getElem?_modify]
 rw [if_neg (fun e => h e.symm)]
theorem size_putRow {β : Type} [Inhabited β] (enc : β → Value) (w : World) (g off : Nat) (d : Array β) : (putRow enc w g off d).heap.size = w.heap.size := by simp [putRow, mapBlock]
theorem grown_put {β : Type} [Inhabited β] (enc : β → Value) (w : World) (n g off : Nat) (d : Array β) (os : Array Obj) : w.grownBy (grow (putRow enc (Sort.ahead w n) g off d) os) (some g) :=
 ⟨rfl, rfl, rfl, by
  have := size_putRow enc (Sort.ahead w n) g off d
  simp only [grow, Array.size_append]
  have e : (Sort.ahead w n).heap.size = w.heap.size := rfl
  omega, fun k hk hne => by
  have hs := size_putRow enc (Sort.ahead w n) g off d
  have e : (Sort.ahead w n).heap.size = w.heap.size := rfl
  rw [heap_grow_old _ os (by omega), heap_putRow enc _ g off d k (fun h => hne (by rw [h]))]
  rfl⟩
theorem put_cells {β : Type} [Inhabited β] {enc : β → Value} {w : World} {g n : Nat} {ys zs : List β} {os : Array Obj} (hH : Holds enc w g 0 ys.toArray) (hg : g < w.heap.size) (hl : zs.length = ys.length) :
  ∀ j (h : j < zs.length), (grow (putRow enc (Sort.ahead w n) g 0 zs.toArray) os).cell? ⟨g, j, none⟩ = some (enc zs[j]) := by
 intro j h
 have hs := size_putRow enc (Sort.ahead w n) g 0 zs.toArray
 have e : (Sort.ahead w n).heap.size = w.heap.size := rfl
 rw [cell?_grow _ _ _ (show g < _ by omega)]
 have := cell?_putRow enc (Sort.ahead w n) g 0 ys.toArray zs.toArray (holds_ahead enc w n g 0 _ hH) (by simpa using hl) j (by simpa using h)
 rw [Nat.zero_add] at this
 rw [this]
 congr 2
 simp [getElem!_pos, h]
theorem RSl.of_cells {α : Type} {by_ : Nat} {R : Rel α} {S : Nat → Prop} {w : World} {g cap : Nat} {xs : List α} (hs : S g) (hg : g < w.heap.size) (hc : xs.length ≤ cap) (hb : xs.length * by_ ≤ 140737488351232)
  (h : ∀ k x, xs[k]? = some x → ∃ v, w.cell? ⟨g, k, none⟩ = some v ∧ R S w [v] x) : RSl 1 by_ R S w [.slice (some ⟨g, 0, none⟩) xs.length cap] xs := by
 refine ⟨_, cap, rfl, hc, hb, fun k x hx => ?_⟩
 obtain ⟨v, h1, h2⟩ := h k x hx
 refine ⟨g, 0, [v], rfl, hs, hg, rfl, h2, fun j hj => ?_⟩
 have : j = 0 := by simpa using hj
 subst this
 simp only [Nat.zero_add, Nat.mul_one, Nat.add_zero]
 rw [h1]; rfl
end Go.Proofs.YtfidfakcbjoilaaGreatDoor
