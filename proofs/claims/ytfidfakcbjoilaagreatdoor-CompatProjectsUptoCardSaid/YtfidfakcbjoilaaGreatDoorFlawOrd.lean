/- The order of flaws, plainly; a sorted list that is a permutation is the sorted list. -/
import Derived.Test.YtfidfakcbjoilaaGreatDoorFlawCmp
import Derived.Sort.Walk0
set_option linter.all false
namespace Go.Proofs.YtfidfakcbjoilaaGreatDoor
open Go.Sort (SWO)
theorem insR_descG {α : Type} {lt : α → α → Bool} (hO : SWO lt) (x : α) : ∀ l : List α, l.Pairwise (fun a b => lt a b = false) → (insR lt x l).Pairwise (fun a b => lt a b = false)
 | [], _ => by unfold insR; exact List.pairwise_singleton _ _
 | y :: l, h => by
  obtain ⟨h1, h2⟩ := List.pairwise_cons.1 h
  unfold insR
  by_cases hl : lt x y = true
  ·rw [if_pos hl]
   refine List.pairwise_cons.2 ⟨fun z hz => ?_, insR_descG hO x l h2⟩
   rcases List.mem_cons.1 ((insR_perm x l).mem_iff.1 hz) with rfl | hz
   ·cases hyz : lt y z with
    | false => rfl
    | true =>
     have := hO.trans _ _ _ hl hyz
     rw [hO.irrefl] at this; cases this
   ·exact h1 z hz
  ·rw [if_neg hl]
   have hl' : lt x y = false := by simpa using hl
   refine List.pairwise_cons.2 ⟨fun z hz => ?_, h⟩
   rcases List.mem_cons.1 hz with rfl | hz
   ·exact hl'
   ·exact hO.ntrans _ _ _ hl' (h1 z hz)
theorem fold_descG {α : Type} {lt : α → α → Bool} (hO : SWO lt) : ∀ (l a : List α), a.Pairwise (fun a b => lt a b = false) → (l.foldl (fun a x => insR lt x a) a).Pairwise (fun a b => lt a b = false)
 | [], _, h => h
 | x :: l, a, h => fold_descG hO l _ (insR_descG hO x a h)
theorem sortS_unique {α : Type} {lt : α → α → Bool} (hO : SWO lt) (ht : ∀ a b, lt a b = false → lt b a = false → a = b) {l l' : List α} (hp : l'.Perm l) (hs : l'.Pairwise (fun a b => lt b a = false)) : l' = sortS lt l := by
 refine List.Perm.eq_of_pairwise (le := fun a b => lt b a = false) (fun a b _ _ h1 h2 => ht a b h2 h1) hs ?_ (hp.trans (sortS_perm l).symm)
 unfold sortS
 rw [List.pairwise_reverse]
 exact fold_descG hO l [] List.Pairwise.nil
def FlawLt (x y : FlawD) : Prop := bytes x.type < bytes y.type ∨ (bytes x.type = bytes y.type ∧ (x.id < y.id ∨ (x.id = y.id ∧ x.why < y.why)))
theorem cmpB_lt : ∀ (a b : List UInt8), Lib.compareBytes a b < 0 ↔ a < b
 | [], [] => by simp [Lib.compareBytes]
 | [], _ :: _ => by simp [Lib.compareBytes]
 | _ :: _, [] => by simp [Lib.compareBytes]
 | a :: x, b :: y => by
  rw [Lib.compareBytes, List.cons_lt_cons_iff]
  by_cases h1 : a < b
  ·simp [h1]
  ·by_cases h2 : b < a
   ·have h3 : a ≠ b := fun e => by subst e; exact h1 h2
    simp [h1, h2, h3]
   ·have h3 : a = b := UInt8.le_antisymm (UInt8.not_lt.1 h2) (UInt8.not_lt.1 h1)
    subst h3
    simp [cmpB_lt x y]
theorem cmpB_eq : ∀ (a b : List UInt8), Lib.compareBytes a b = 0 ↔ a = b
 | [], [] => by simp [Lib.compareBytes]
 | [], _ :: _ => by simp [Lib.compareBytes]
 | _ :: _, [] => by simp [Lib.compareBytes]
 | a :: x, b :: y => by
  rw [Lib.compareBytes]
  by_cases h1 : a < b
  ·have h3 : a ≠ b := fun e => by subst e; exact UInt8.lt_irrefl _ h1
   simp [h1, h3]
  ·by_cases h2 : b < a
   ·have h3 : a ≠ b := fun e => by subst e; exact h1 h2
    simp [h1, h2, h3]
   ·have h3 : a = b := UInt8.le_antisymm (UInt8.not_lt.1 h2) (UInt8.not_lt.1 h1)
    subst h3
    simp [cmpB_eq x y]
theorem cmpI_lt (a b : Int) : Lib.compareInt a b < 0 ↔ a < b := by
 unfold Lib.compareInt
 split
 ·omega
 ·split <;> omega
theorem cmpI_eq (a b : Int) : Lib.compareInt a b = 0 ↔ a = b := by
 unfold Lib.compareInt
 split
 ·omega
 ·split <;> omega
theorem orL3 (a b c : Int) : orL [a, b, c] = if a ≠ 0 then a else if b ≠ 0 then b else c := by
 unfold orL
 by_cases h1 : a = 0
 ·by_cases h2 : b = 0
  ·by_cases h3 : c = 0 <;> simp [h1, h2, h3]
  ·simp [h1, h2]
 ·simp [h1]
theorem flawC_lt (x y : FlawD) : flawC x y < 0 ↔ FlawLt x y := by
 unfold flawC FlawLt
 rw [orL3]
 have a1 := cmpB_lt x.type.data.toList y.type.data.toList
 have a2 := cmpB_eq x.type.data.toList y.type.data.toList
 have b1 := cmpI_lt x.id y.id
 have b2 := cmpI_eq x.id y.id
 have c1 := cmpI_lt x.why y.why
 have e1 : bytes x.type = x.type.data.toList := rfl
 have e2 : bytes y.type = y.type.data.toList := rfl
 rw [e1, e2]
 by_cases h1 : Lib.compareBytes x.type.data.toList y.type.data.toList = 0
 ·have h1' := a2.1 h1
  rw [if_neg (by simpa using h1), h1']
  have hi : ¬ y.type.data.toList < y.type.data.toList := List.lt_irrefl _
  by_cases h2 : Lib.compareInt x.id y.id = 0
  ·rw [if_neg (by simpa using h2), c1]
   have := b2.1 h2
   simp [this, hi]
  ·rw [if_pos h2, b1]
   have : ¬ x.id = y.id := fun h => h2 (b2.2 h)
   simp [this, hi]
 ·rw [if_pos h1, a1]
  have : ¬ x.type.data.toList = y.type.data.toList := fun h => h1 (a2.2 h)
  simp [this]
theorem ltFlaw_iff (x y : FlawD) : ltFlaw x y = true ↔ FlawLt x y := by
 unfold ltFlaw FlawLt
 have e : ltS x.type y.type ↔ bytes x.type < bytes y.type := by
  unfold ltS
  rw [Go.Proofs.bytesLess_eq, ByteArray.toList_eq, ByteArray.toList_eq, decide_eq_true_iff]
 have e2 : x.type = y.type ↔ bytes x.type = bytes y.type := ⟨fun h => by rw [h], fun h => (ba_of h).trans (ba_of rfl).symm⟩
 simp only [Bool.or_eq_true, Bool.and_eq_true, decide_eq_true_eq, e, e2]
theorem ltOf_flaw (x y : FlawD) : ltOf flawC x y = ltFlaw x y := by
 unfold ltOf
 rw [Bool.eq_iff_iff, decide_eq_true_iff, flawC_lt, ltFlaw_iff]
theorem lists_three (a b : List UInt8) : a < b ∨ a = b ∨ b < a := by
 by_cases h1 : a < b
 ·exact .inl h1
 ·by_cases h2 : b < a
  ·exact .inr (.inr h2)
  ·exact .inr (.inl (List.le_antisymm (List.not_lt.1 h2) (List.not_lt.1 h1)))
theorem flaw_irrefl (x : FlawD) : ¬ FlawLt x x := by
 rintro (h | ⟨-, h | ⟨-, h⟩⟩)
 ·exact List.lt_irrefl _ h
 ·omega
 ·omega
theorem flaw_trans {x y z : FlawD} (h : FlawLt x y) (h' : FlawLt y z) : FlawLt x z := by
 rcases h with h | ⟨h, k⟩
 ·rcases h' with h' | ⟨h', -⟩
  ·exact .inl (List.lt_trans h h')
  ·exact .inl (h' ▸ h)
 ·rcases h' with h' | ⟨h', k'⟩
  ·exact .inl (h ▸ h')
  ·refine .inr ⟨h.trans h', ?_⟩
   omega
theorem flaw_three (x y : FlawD) : FlawLt x y ∨ x = y ∨ FlawLt y x := by
 obtain ⟨xt, xi, xw⟩ := x
 obtain ⟨yt, yi, yw⟩ := y
 rcases lists_three (bytes xt) (bytes yt) with h | h | h
 ·exact .inl (.inl h)
 ·have ht : xt = yt := (ba_of h).trans (ba_of rfl).symm
  subst ht
  by_cases h1 : xi < yi
  ·exact .inl (.inr ⟨rfl, .inl h1⟩)
  ·by_cases h2 : yi < xi
   ·exact .inr (.inr (.inr ⟨rfl, .inl h2⟩))
   ·obtain rfl : xi = yi := by omega
    by_cases h3 : xw < yw
    ·exact .inl (.inr ⟨rfl, .inr ⟨rfl, h3⟩⟩)
    ·by_cases h4 : yw < xw
     ·exact .inr (.inr (.inr ⟨rfl, .inr ⟨rfl, h4⟩⟩))
     ·obtain rfl : xw = yw := by omega
      exact .inr (.inl rfl)
 ·exact .inr (.inr (.inl h))
theorem flaw_no {x y : FlawD} : ltFlaw x y = false ↔ ¬ FlawLt x y := by
 rw [← ltFlaw_iff]; simp
theorem swo_flaw : SWO ltFlaw := ⟨fun x => flaw_no.2 (flaw_irrefl x), fun x y z h1 h2 => (ltFlaw_iff _ _).2 (flaw_trans ((ltFlaw_iff _ _).1 h1) ((ltFlaw_iff _ _).1 h2)), fun x y z h1 h2 => flaw_no.2 fun h => by
 have h1 := flaw_no.1 h1
 have h2 := flaw_no.1 h2
 rcases flaw_three y z with k | k | k
 ·exact h2 k
 ·subst k; exact h1 h
 ·exact h1 (flaw_trans h k)⟩
theorem flaw_anti (a b : FlawD) (h1 : ltFlaw a b = false) (h2 : ltFlaw b a = false) : a = b := by
 rcases flaw_three a b with k | k | k
 ·exact absurd k (flaw_no.1 h1)
 ·exact k
 ·exact absurd k (flaw_no.1 h2)
theorem sorted_flaws {l l' : List FlawD} (hp : l'.Perm l) (hs : l'.Pairwise (fun a b => ltFlaw b a = false)) : l' = sortS ltFlaw l := sortS_unique swo_flaw flaw_anti hp hs
end Go.Proofs.YtfidfakcbjoilaaGreatDoor
