/- The sort of numbers, as the reader takes it. -/
import Derived.Test.YtfidfakcbjoilaaGreatDoorMergeRows
import Derived.Test.YtfidfakcbjoilaaGreatDoorRefShelf
import Derived.Test.YtfidfakcbjoilaaGreatDoorBase
set_option linter.all false
namespace Go.Proofs.YtfidfakcbjoilaaGreatDoor
open Go.RowKit Go.Sort
theorem insR_perm {α : Type} {lt : α → α → Bool} (x : α) : ∀ l : List α, (insR lt x l).Perm (x :: l)
 | [] => .refl _
 | y :: l => by
  unfold insR
  split
  ·exact ((insR_perm x l).cons y).trans (.swap x y l)
  ·exact .refl _
theorem fold_perm {α : Type} {lt : α → α → Bool} : ∀ (l a : List α), (l.foldl (fun a x => insR lt x a) a).Perm (l ++ a)
 | [], _ => .refl _
 | x :: l, a => (fold_perm l (insR lt x a)).trans (((insR_perm x a).append_left l).trans List.perm_middle)
theorem sortS_perm {α : Type} {lt : α → α → Bool} (l : List α) : (sortS lt l).Perm l := by
 have := fold_perm (lt := lt) l []
 rw [List.append_nil] at this
 exact (List.reverse_perm _).trans this
theorem insR_desc (x : Int) : ∀ l : List Int, l.Pairwise (fun a b => b ≤ a) → (insR ltInt x l).Pairwise (fun a b => b ≤ a)
 | [], _ => by unfold insR; exact List.pairwise_singleton _ _
 | y :: l, h => by
  obtain ⟨h1, h2⟩ := List.pairwise_cons.1 h
  unfold insR
  by_cases hl : x < y
  ·rw [if_pos (by unfold ltInt; exact decide_eq_true hl)]
   refine List.pairwise_cons.2 ⟨fun z hz => ?_, insR_desc x l h2⟩
   rcases List.mem_cons.1 ((insR_perm x l).mem_iff.1 hz) with rfl | hz
   ·omega
   ·exact h1 z hz
  ·rw [if_neg (by unfold ltInt; simpa using hl)]
   refine List.pairwise_cons.2 ⟨fun z hz => ?_, h⟩
   rcases List.mem_cons.1 hz with rfl | hz
   ·omega
   ·have := h1 z hz; omega
theorem fold_desc : ∀ (l a : List Int), a.Pairwise (fun a b => b ≤ a) → (l.foldl (fun a x => insR ltInt x a) a).Pairwise (fun a b => b ≤ a)
 | [], _, h => h
 | x :: l, a, h => fold_desc l _ (insR_desc x a h)
theorem sortS_ints (l : List Int) : l.mergeSort (fun x y => decide (x ≤ y)) = sortS ltInt l := by
 refine List.Perm.eq_of_pairwise (le := fun a b => decide (a ≤ b) = true) (fun a b _ _ h1 h2 => by simp only [decide_eq_true_eq] at h1 h2; omega)
  (List.pairwise_mergeSort (fun a b c h1 h2 => by simp only [decide_eq_true_eq] at *; omega) (fun a b => by simp only [Bool.or_eq_true, decide_eq_true_eq]; omega) l) ?_ ((List.mergeSort_perm _ _).trans (sortS_perm l).symm)
 unfold sortS
 rw [List.pairwise_reverse]
 exact (fold_desc l [] List.Pairwise.nil).imp (fun h => decide_eq_true h)
theorem sortInts_any (base : Nat) (v : Value) (l : List Int) (w : World) (ho : Own base 3 1 RInt NoT w v l) (hl : l.length ≤ 1000000) :
  Calls Tryz.prog 41 #[v] w fun e w' => e = .returned (.tuple #[]) ∧ w.grownBy w' v.ownBlock ∧ RSl 1 8 RInt (fun y => v.ownBlock = some y) w' [v] (sortS ltInt l) := by
 have hform := ho
 obtain ⟨css, h1, _⟩ := hform
 rcases h1.2 with ⟨rfl, hn⟩ | ⟨g, cap, cur, rfl, hg, hh, hnc, _⟩
 ·have : l = [] := List.eq_nil_of_length_eq_zero hn
  subst this
  refine (Tryz.slices_Sort_int_none none 0 w).mono ?_
  rintro e w' ⟨rfl, rfl⟩
  exact ⟨rfl, grown_below (Below.refl _ _) _, RSl.nil_⟩
 ·have hgl : g < w.heap.size := (Array.getElem?_eq_some_iff.1 hh).1
  have hH : Holds (Value.int .i64) w g 0 l.toArray := Own.holds ho rfl (fun k x y cs hx hy hr => by
   have hr' : cs = [.int .i64 x] := hr
   rw [hx] at hy
   injection hy with hy
   rw [hr', ← hy])
  have hcall := Tryz.slices_Sort_int g 0 cap l w hH hgl (by omega)
  refine hcall.mono ?_
  rintro e w' ⟨rfl, n, os, rfl⟩
  have hgr := grown_put (Value.int .i64) w n g 0 (l.mergeSort fun x y => decide (x ≤ y)).toArray os
  refine ⟨rfl, hgr, ?_⟩
  rw [← sortS_ints]
  have hlen : (l.mergeSort fun x y => decide (x ≤ y)).length = l.length := List.length_mergeSort l
  have hc := put_cells (n := n) (os := os) hH hgl hlen
  have := RSl.of_cells (by_ := 8) (R := RInt) (S := fun y => (Value.slice (some ⟨g, 0, none⟩) l.length cap).ownBlock = some y) (cap := cap) (w := grow (putRow (Value.int .i64) (Sort.ahead w n) g 0 (l.mergeSort fun x y => decide (x ≤ y)).toArray) os) (g := g) (xs := l.mergeSort fun x y => decide (x ≤ y)) rfl (Nat.lt_of_lt_of_le hgl hgr.size) (by omega) (by omega) (fun k x hx => by
   obtain ⟨hk, rfl⟩ := List.getElem?_eq_some_iff.1 hx
   exact ⟨_, hc k hk, rfl⟩)
  rw [hlen] at this
  exact this
end Go.Proofs.YtfidfakcbjoilaaGreatDoor
