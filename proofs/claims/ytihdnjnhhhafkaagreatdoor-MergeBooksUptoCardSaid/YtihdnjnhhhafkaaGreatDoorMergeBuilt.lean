/- What merge.types builds: a type's three rows and the row of what is wrong. -/
import Derived.Test.YtihdnjnhhhafkaaGreatDoorMwalks
import Derived.Test.YtihdnjnhhhafkaaGreatDoorMergeNumbers
import Derived.Test.YtihdnjnhhhafkaaGreatDoorLates
set_option linter.all false
namespace Go.Proofs.YtihdnjnhhhafkaaGreatDoor
open Go.RowKit
theorem sl_fields : SlInfo Tryz.prog 34 43 5 56 := SlInfo.mk (z := .agg #[.int .i64 0, .string .empty, .string .empty, .int .i64 0, .int .i64 0]) Tryz.underlying34 (by decide) (by decide) (by kernel_rfl) rfl
theorem sl_items : SlInfo Tryz.prog 36 62 2 24 := SlInfo.mk (z := .agg #[.string .empty, .int .i64 0]) Tryz.underlying36 (by decide) (by decide) (by kernel_rfl) rfl
theorem sl_flaws : SlInfo Tryz.prog 26 50 3 32 := SlInfo.mk (z := .agg #[.string .empty, .int .i64 0, .int .i64 0]) Tryz.underlying26 (by decide) (by decide) (by kernel_rfl) rfl
theorem sl_types : SlInfo Tryz.prog 22 38 5 96 := SlInfo.mk (z := .agg #[.string .empty, .bool false, .slice none 0 0, .slice none 0 0, .slice none 0 0]) Tryz.underlying22 (by decide) (by decide) (by kernel_rfl) rfl
theorem Own.ne {α β : Type} {R : Rel α} {R' : Rel β} {b1 b2 e e' s s' : Nat} {T T' : Nat → Prop} {w : World} {v v' : Value} {xs : List α} {ys : List β} (h : Own b1 e s R T w v xs) (h' : Own b2 e' s' R' T' w v' ys) (hne : e ≠ e') : v.ownBlock = none ∨ v.ownBlock ≠ v'.ownBlock := by
 obtain ⟨_, h1, _⟩ := h
 obtain ⟨_, h2, _⟩ := h'
 rcases h1.2 with ⟨rfl, _⟩ | ⟨g, cap, cur, rfl, _, hh, _⟩
 ·exact .inl rfl
 ·right
  rcases h2.2 with ⟨rfl, _⟩ | ⟨g', cap', cur', rfl, _, hh', _⟩
  ·simp [Value.ownBlock]
  ·intro he
   have : g = g' := by simpa [Value.ownBlock] using he
   subst this
   rw [hh] at hh'
   injection hh' with hh'
   injection hh' with _ ht
   exact hne ht
structure TB (base : Nat) (w : World) (vf vg vi vb : Value) (F : List FieldD) (G : List Int) (I : List ItemD) (B : List FlawD) : Prop where
 f : Own base 43 5 RField NoT w vf F
 g : Own base 3 1 RInt NoT w vg G
 i : Own base 62 2 RItem NoT w vi I
 b : Own base 50 3 RFlaw NoT w vb B
section
variable {base : Nat} {w w' : World} {vf vg vi vb v' : Value} {F : List FieldD} {G : List Int} {I : List ItemD} {B : List FlawD}
theorem TB.nil (base : Nat) (w : World) : TB base w (.slice none 0 0) (.slice none 0 0) (.slice none 0 0) (.slice none 0 0) [] [] [] [] :=
 ⟨Own.nil_ _ _ _ _ _ _, Own.nil_ _ _ _ _ _ _, Own.nil_ _ _ _ _ _ _, Own.nil_ _ _ _ _ _ _⟩
theorem TB.below (h : TB base w vf vg vi vb F G I B) (hb : Below w.heap.size w w') : TB base w' vf vg vi vb F G I B :=
 ⟨h.f.below RField.fair hb, h.g.below RInt.fair hb, h.i.below RItem.fair hb, h.b.below RFlaw.fair hb⟩
theorem TB.alloc (h : TB base w vf vg vi vb F G I B) (o : Obj) : TB base (w.alloc o) vf vg vi vb F G I B := h.below ((Below.refl _ _).alloc (Nat.le_refl _) o)
theorem TB.pushF (h : TB base w vf vg vi vb F G I B) {x : List FieldD} (hg : w.grownBy w' vf.ownBlock) (ho : Own base 43 5 RField NoT w' v' x) : TB base w' v' vg vi vb x G I B :=
 ⟨ho, h.g.kept RInt.fair hg (h.g.ne h.f (by decide)) (fun _ _ h => h), h.i.kept RItem.fair hg (h.i.ne h.f (by decide)) (fun _ _ h => h), h.b.kept RFlaw.fair hg (h.b.ne h.f (by decide)) (fun _ _ h => h)⟩
theorem TB.pushG (h : TB base w vf vg vi vb F G I B) {x : List Int} (hg : w.grownBy w' vg.ownBlock) (ho : Own base 3 1 RInt NoT w' v' x) : TB base w' vf v' vi vb F x I B :=
 ⟨h.f.kept RField.fair hg (h.f.ne h.g (by decide)) (fun _ _ h => h), ho, h.i.kept RItem.fair hg (h.i.ne h.g (by decide)) (fun _ _ h => h), h.b.kept RFlaw.fair hg (h.b.ne h.g (by decide)) (fun _ _ h => h)⟩
theorem TB.pushI (h : TB base w vf vg vi vb F G I B) {x : List ItemD} (hg : w.grownBy w' vi.ownBlock) (ho : Own base 62 2 RItem NoT w' v' x) : TB base w' vf vg v' vb F G x B :=
 ⟨h.f.kept RField.fair hg (h.f.ne h.i (by decide)) (fun _ _ h => h), h.g.kept RInt.fair hg (h.g.ne h.i (by decide)) (fun _ _ h => h), ho, h.b.kept RFlaw.fair hg (h.b.ne h.i (by decide)) (fun _ _ h => h)⟩
theorem TB.pushB (h : TB base w vf vg vi vb F G I B) {x : List FlawD} (hg : w.grownBy w' vb.ownBlock) (ho : Own base 50 3 RFlaw NoT w' v' x) : TB base w' vf vg vi v' F G I x :=
 ⟨h.f.kept RField.fair hg (h.f.ne h.b (by decide)) (fun _ _ h => h), h.g.kept RInt.fair hg (h.g.ne h.b (by decide)) (fun _ _ h => h), h.i.kept RItem.fair hg (h.i.ne h.b (by decide)) (fun _ _ h => h), ho⟩
theorem TB.setCell (h : TB base w vf vg vi vb F G I B) {p : Addr} (u : Value) (hp : p.block < base) : TB base (w.setCell p u) vf vg vi vb F G I B :=
 ⟨h.f.setCell RField.fair u (fun e => by have := (h.f.lt e).1; omega) (fun h => h), h.g.setCell RInt.fair u (fun e => by have := (h.g.lt e).1; omega) (fun h => h), h.i.setCell RItem.fair u (fun e => by have := (h.i.lt e).1; omega) (fun h => h), h.b.setCell RFlaw.fair u (fun e => by have := (h.b.lt e).1; omega) (fun h => h)⟩
end
theorem idsL_len : idsL.length = 30 := by simp [idsL]
theorem idsL_get {k : Nat} (hk : k < 30) : idsL[k]'(by rw [idsL_len]; exact hk) = (k : Int) + 1 := by simp [idsL]
theorem idsL_step {α : Type} (f : Int → List α) {k : Nat} (hk : k < 30) : (idsL.take (k + 1)).flatMap f = (idsL.take k).flatMap f ++ f ((k : Int) + 1) := by
 rw [List.take_add_one, List.getElem?_eq_getElem (by rw [idsL_len]; exact hk), idsL_get hk]; simp
theorem take_step {α β : Type} (l : List α) (f : α → List β) {k : Nat} (hk : k < l.length) : (l.take (k + 1)).flatMap f = (l.take k).flatMap f ++ f l[k] := by
 rw [List.take_add_one, List.getElem?_eq_getElem hk, List.flatMap_append]; simp only [Option.toList, List.flatMap_cons, List.flatMap_nil, List.append_nil]
section
variable {x y z : TypeD} {name : ByteArray} {id : Int} {s1 s2 : StateD} {ok1 ok2 : Bool}
theorem at_bad (h1 : (s1, ok1) = fT x y z id) (h2 : (s2, ok2) = gT x y z id) (hb : (!ok1 || (s1.there && s2.there)) = true) : fieldsAt x y z id = [] ∧ goneAt x y z id = [] ∧ badAt x y z name id = [⟨name, id, 0⟩] := by
 have e : badId x y z id = true := by unfold badId; rw [← h1, ← h2]; exact hb
 unfold fieldsAt goneAt badAt
 simp [e]
theorem at_field (h1 : (s1, true) = fT x y z id) (h2 : (s2, ok2) = gT x y z id) (ht : s1.there = true) (hg : s2.there = false) : fieldsAt x y z id = [s1.field] ∧ goneAt x y z id = [] ∧ badAt x y z name id = [] := by
 have e : badId x y z id = false := by unfold badId; rw [← h1, ← h2]; simp [ht, hg]
 unfold fieldsAt goneAt badAt
 rw [← h1]
 simp [e, ht]
theorem at_gone (h1 : (s1, true) = fT x y z id) (h2 : (s2, ok2) = gT x y z id) (ht : s1.there = false) (hg : s2.there = true) : fieldsAt x y z id = [] ∧ goneAt x y z id = [id] ∧ badAt x y z name id = [] := by
 have e : badId x y z id = false := by unfold badId; rw [← h1, ← h2]; simp [ht, hg]
 unfold fieldsAt goneAt badAt
 rw [← h1, ← h2]
 simp [e, ht, hg]
theorem at_none (h1 : (s1, true) = fT x y z id) (h2 : (s2, ok2) = gT x y z id) (ht : s1.there = false) (hg : s2.there = false) : fieldsAt x y z id = [] ∧ goneAt x y z id = [] ∧ badAt x y z name id = [] := by
 have e : badId x y z id = false := by unfold badId; rw [← h1, ← h2]; simp [ht, hg]
 unfold fieldsAt goneAt badAt
 rw [← h1, ← h2]
 simp [e, ht, hg]
theorem it_bad (h : (s1, false) = iT x y z id) : itemsAt x y z id = [] ∧ badIt x y z name id = [⟨name, id, 0⟩] := by
 unfold itemsAt badIt
 rw [← h]; simp
theorem it_item (h : (s1, true) = iT x y z id) (ht : s1.there = true) : itemsAt x y z id = [⟨s1.item, id⟩] ∧ badIt x y z name id = [] := by
 unfold itemsAt badIt
 rw [← h]; simp [ht]
theorem it_none (h : (s1, true) = iT x y z id) (ht : s1.there = false) : itemsAt x y z id = [] ∧ badIt x y z name id = [] := by
 unfold itemsAt badIt
 rw [← h]; simp [ht]
end
end Go.Proofs.YtihdnjnhhhafkaaGreatDoor
