/- Plain law for the document's MergeBooks: a key is taken from the book from which the three states say it is. -/
import Derived.Test.YtihdnjnhhhafkaaGreatDoorRefTF
import Derived.Test.YtihdnjnhhhafkaaGreatDoorMergeBooks
import Derived.Test.YtihdnjnhhhafkaaGreatDoorMLaws
set_option linter.all false
namespace Go.Proofs.YtihdnjnhhhafkaaGreatDoor
open Go.RowKit
theorem typeOf_mem {b : BookD} {name : ByteArray} : typeOf b name ∈ b ∨ typeOf b name = .zero := by
 unfold typeOf
 cases h : findT b name with
 | none => exact .inr rfl
 | some t => exact .inl (findT_some h).1
theorem good_typeName {b : BookD} (h : goodF b = 0) {t : TypeD} (ht : t ∈ b) : namedF t.name = true := by
 obtain ⟨_, h1, _⟩ := good_parts h
 obtain ⟨i, hi, rfl⟩ := List.getElem_of_mem ht
 exact (h1 i hi).1
theorem good_fieldP {b : BookD} (h : goodF b = 0) {t : TypeD} (ht : t ∈ b) {f : FieldD} (hf : f ∈ t.fields) : fieldP b f := by
 cases he : t.enum with
 | true =>
  have := (good_enum h ht he).2.2.2.1
  rw [List.eq_nil_of_length_eq_zero this] at hf; cases hf
 | false =>
  obtain ⟨i, hi, rfl⟩ := List.getElem_of_mem hf
  exact ((good_msg h ht he).2.2.2.2 i hi).1
theorem good_itemN {b : BookD} (h : goodF b = 0) {t : TypeD} (ht : t ∈ b) {x : ItemD} (hx : x ∈ t.items) : namedF x.name = true ∧ -1099511627776 ≤ x.n ∧ x.n ≤ 1099511627776 := by
 cases he : t.enum with
 | true =>
  obtain ⟨i, hi, rfl⟩ := List.getElem_of_mem hx
  have := (good_enum h ht he).1 i hi
  exact ⟨this.1, this.2.1, this.2.2.1⟩
 | false =>
  have := (good_msg h ht he).2.1
  rw [List.eq_nil_of_length_eq_zero this] at hx; cases hx
theorem good_fieldsOk {b : BookD} (h : goodF b = 0) : FieldsOk b := by
 intro name n f hf
 have hm := (fieldOf_some hf).1
 rcases typeOf_mem (b := b) (name := name) with ht | ht
 ·obtain ⟨h1, -, -, h4, h5, h6, h7, hk⟩ := good_fieldP h ht hm
  refine ⟨by omega, by omega, by omega, by omega, by have := (named_size h1).2; omega, ?_⟩
  by_cases h4k : f.kind < 4
  ·rw [hk.1 h4k]; omega
  ·have hs := (hk.2 (by omega)).1
   obtain ⟨u, hu⟩ := Option.isSome_iff_exists.1 hs
   have hn := good_typeName h (findT_some hu).1
   rw [(findT_some hu).2] at hn
   have := (named_size hn).2; omega
 ·rw [ht] at hm; simp [TypeD.zero] at hm
def stA (c : Int) (b : BookD) (name : ByteArray) (n : Int) : StateD := if c = 116 then kindS b name else if c = 102 then fieldS (typeOf b name) n else if c = 103 then goneS (typeOf b name) n else itemS (typeOf b name) n
theorem good_fieldN {b : BookD} (h : goodF b = 0) (name : ByteArray) (n : Int) : ∀ f, fieldOf (typeOf b name) n = some f → namedF f.name = true ∧ f.id = n := fun f hf => by
 refine ⟨?_, (fieldOf_some hf).2⟩
 have hm := (fieldOf_some hf).1
 rcases typeOf_mem (b := b) (name := name) with ht | ht
 ·exact (good_fieldP h ht hm).1
 ·rw [ht] at hm; simp [TypeD.zero] at hm
theorem good_itemS {b : BookD} (h : goodF b = 0) (name : ByteArray) (n : Int) : ∀ x, itemOf (typeOf b name) n = some x → namedF x.name = true := fun x hx => by
 have hm := (itemOf_some hx).1
 rcases typeOf_mem (b := b) (name := name) with ht | ht
 ·exact (good_itemN h ht hm).1
 ·rw [ht] at hm; simp [TypeD.zero] at hm
theorem toldA_iff {c : Int} {b b' : BookD} (h : goodF b = 0) (h' : goodF b' = 0) (name : ByteArray) (n : Int) : toldA c b name n = toldA c b' name n ↔ stA c b name n = stA c b' name n := by
 unfold toldA stA
 split
 ·exact toldT_iff _ _ _
 split
 ·exact toldF_iff (good_fieldN h name n) (good_fieldN h' name n)
 split
 ·exact toldG_iff _ _ _
 ·exact toldI_iff (good_itemS h name n) (good_itemS h' name n)
theorem toldA_there {c : Int} {b : BookD} (h : goodF b = 0) (name : ByteArray) (n : Int) : (toldA c b name n = ⟨#[]⟩) = ((stA c b name n).there = false) := by
 unfold toldA stA
 split
 ·unfold toldT kindS
  cases (findT b name).isSome <;> cases (typeOf b name).enum <;> decide
 split
 ·unfold toldF fieldS
  cases fieldOf (typeOf b name) n with
  | none => simp
  | some f =>
   simp only [Option.isSome_some, Bool.true_eq_false, eq_iff_iff, iff_false]
   intro q
   have := arr_inj (b := []) q
   cases hi : Lib.itoa f.kind <;> rw [hi] at this <;> cases this
 split
 ·unfold toldG goneS
  cases hasI (typeOf b name).gone n <;> decide
 ·unfold toldI itemS
  cases e : itemOf (typeOf b name) n with
  | none => simp [noS]
  | some x => simpa using named_some (good_itemS h name n x e)
def ChoiceP (ga gb : Nat) (a b : BookD) (c : Int) (name : ByteArray) (n : Int) (p : Value) (s : StateD × Bool) : Prop :=
 (p = .pointer none ∧ s.2 = false) ∨ ∃ gh h, (gh = ga ∧ h = a ∨ gh = gb ∧ h = b) ∧ p = .pointer (some ⟨gh, 0, none⟩) ∧ s = (stA c h name n, true)
theorem choice {was a b : BookD} (h1 : goodF was = 0) (h2 : goodF a = 0) (h3 : goodF b = 0) (ga gb : Nat) (c : Int) (name : ByteArray) (n : Int) :
  ChoiceP ga gb a b c name n (ptrF ga gb (pickF (toldA c was name n) (toldA c a name n) (toldA c b name n))) (threeF (stA c was name n) (stA c a name n) (stA c b name n)) := by
 have hp := pick_three (toldA_iff (c := c) h2 h3 name n) (toldA_iff (c := c) h3 h1 name n) (toldA_iff (c := c) h2 h1 name n)
 unfold ChoiceP
 rw [hp]
 obtain ⟨k, hk⟩ : ∃ k, k = pickF (toldA c was name n) (toldA c a name n) (toldA c b name n) := ⟨_, rfl⟩
 rw [← hk]
 have h012 : k = 0 ∨ k = 1 ∨ k = 2 := by rw [hk]; unfold pickF; split; exact .inr (.inl rfl); split; exact .inr (.inr rfl); exact .inl rfl
 rcases h012 with rfl | rfl | rfl
 ·exact .inl ⟨rfl, rfl⟩
 ·exact .inr ⟨ga, a, .inl ⟨rfl, rfl⟩, rfl, rfl⟩
 ·exact .inr ⟨gb, b, .inr ⟨rfl, rfl⟩, rfl, rfl⟩
theorem names_some {was a b : BookD} (h1 : goodF was = 0) (h2 : goodF a = 0) (h3 : goodF b = 0) : ∀ x ∈ namesF [was, a, b], x ≠ ⟨#[]⟩ := by
 intro x hx
 obtain ⟨c, hc, t, ht, rfl⟩ := names_mem.1 hx
 have hg : goodF c = 0 := by
  rcases List.mem_cons.1 hc with rfl | hc
  ·exact h1
  rcases List.mem_cons.1 hc with rfl | hc
  ·exact h2
  ·rw [List.mem_singleton.1 hc]; exact h3
 exact named_some (good_typeName hg ht)
theorem numbers_above {was a b : BookD} (h1 : goodF was = 0) (h2 : goodF a = 0) (h3 : goodF b = 0) (name : ByteArray) : ∀ x ∈ numbersF [typeOf was name, typeOf a name, typeOf b name], (-1099511627777 : Int) < x ∧ x ≤ 1099511627776 := by
 intro x hx
 obtain ⟨t, ht, i, hi, rfl⟩ := numbers_mem.1 hx
 have hg : ∀ c, goodF c = 0 → t = typeOf c name → (-1099511627777 : Int) < i.n ∧ i.n ≤ 1099511627776 := fun c hc e => by
  subst e
  rcases typeOf_mem (b := c) (name := name) with h | h
  ·have := (good_itemN hc h hi).2; omega
  ·rw [h] at hi; simp [TypeD.zero] at hi
 rcases List.mem_cons.1 ht with h | ht
 ·exact hg _ h1 h
 rcases List.mem_cons.1 ht with h | ht
 ·exact hg _ h2 h
 ·exact hg _ h3 (List.mem_singleton.1 ht)
end Go.Proofs.YtihdnjnhhhafkaaGreatDoor
