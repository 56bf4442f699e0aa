/- What merge.Books builds: plain bounds, and its rows. -/
import Derived.Test.YtihdnjnhhhafkaaGreatDoorMergeTypes
import Derived.Test.YtihdnjnhhhafkaaGreatDoorMLaws
import Derived.Test.YtihdnjnhhhafkaaGreatDoorBookGood
set_option linter.all false
namespace Go.Proofs.YtihdnjnhhhafkaaGreatDoor
open Go.RowKit
theorem flat_le {α β : Type} {f : α → List β} {c : Nat} (h : ∀ x, (f x).length ≤ c) : ∀ (l : List α), (l.flatMap f).length ≤ l.length * c
 | [] => by simp
 | x :: l => by
  have h1 := h x
  have h2 := flat_le h l
  rw [List.flatMap_cons, List.length_append, List.length_cons, Nat.add_mul]; omega
theorem good_len {b : BookD} (h : goodF b = 0) : b.length ≤ 4 := by
 unfold goodF at h
 split at h
 ·cases h
 ·omega
theorem good_items {b : BookD} (h : goodF b = 0) (n : ByteArray) : (typeOf b n).items.length ≤ 100 := by
 unfold typeOf
 cases hf : findT b n with
 | none => simp [TypeD.zero]
 | some t =>
  have hm := (findT_some hf).1
  show t.items.length ≤ 100
  cases he : t.enum with
  | true => have := (good_enum h hm he).2.2.1; omega
  | false => have := (good_msg h hm he).2.1; omega
theorem names_flat {was a b : BookD} (h1 : goodF was = 0) (h2 : goodF a = 0) (h3 : goodF b = 0) : ([was, a, b].flatMap fun b => b.map (·.name)).length ≤ 12 := by
 have := good_len h1
 have := good_len h2
 have := good_len h3
 simp only [List.flatMap_cons, List.flatMap_nil, List.append_nil, List.length_append, List.length_map]
 omega
theorem foldl_addS_len : ∀ (l acc : List ByteArray), (l.foldl addS acc).length ≤ acc.length + l.length
 | [], acc => by simp
 | x :: l, acc => by
  rw [List.foldl_cons]
  have h1 := foldl_addS_len l (addS acc x)
  have h2 : (addS acc x).length ≤ acc.length + 1 := by unfold addS; split <;> simp
  rw [List.length_cons]; omega
theorem names_len {was a b : BookD} (h1 : goodF was = 0) (h2 : goodF a = 0) (h3 : goodF b = 0) : (namesF [was, a, b]).length ≤ 12 := by
 unfold namesF
 rw [sortN_len]
 have := foldl_addS_len ([was, a, b].flatMap fun b => b.map (·.name)) []
 have := names_flat h1 h2 h3
 unfold onceS
 simp only [List.length_nil] at *
 omega
theorem badAt_len (x y z : TypeD) (n : ByteArray) (i : Int) : (badAt x y z n i).length ≤ 1 := by unfold badAt; split <;> simp
theorem badIt_len (x y z : TypeD) (n : ByteArray) (i : Int) : (badIt x y z n i).length ≤ 1 := by unfold badIt; split <;> simp
theorem tyL_len {was a b : BookD} (h1 : goodF was = 0) (h2 : goodF a = 0) (h3 : goodF b = 0) (n : ByteArray) : (tyL was a b n).length ≤ 330 := by
 unfold tyL typesL
 have e1 := flat_le (badAt_len (typeOf was n) (typeOf a n) (typeOf b n) n) idsL
 have e2 := flat_le (badIt_len (typeOf was n) (typeOf a n) (typeOf b n) n) (numbersF [typeOf was n, typeOf a n, typeOf b n])
 rw [idsL_len] at e1
 have e3 : (numbersF [typeOf was n, typeOf a n, typeOf b n]).length ≤ 300 := by
  unfold numbersF
  refine Nat.le_trans (compact_le _) ?_
  rw [sortI_len]
  have := good_items h1 n
  have := good_items h2 n
  have := good_items h3 n
  simp only [List.flatMap_cons, List.flatMap_nil, List.append_nil, List.length_append, List.length_map]
  omega
 rw [List.length_append]; omega
theorem nameM_bads {was a b : BookD} (h1 : goodF was = 0) (h2 : goodF a = 0) (h3 : goodF b = 0) (n : ByteArray) : (nameM was a b n).2.length ≤ 330 := by
 have := tyL_len h1 h2 h3 n
 unfold nameM
 split
 ·simp
 ·split
  ·exact this
  ·split
   ·simp
   ·split <;> simp
def SizesT (t : TypeD) : Prop := SizeOk t.name ∧ (∀ f ∈ t.fields, SizeOk f.name ∧ SizeOk f.type) ∧ (∀ x ∈ t.items, SizeOk x.name)
theorem sizes_typeOf {b : BookD} (h : BookOk b) (n : ByteArray) : SizesT (typeOf b n) := by
 unfold typeOf
 cases hf : findT b n with
 | none => exact ⟨(by show SizeOk ⟨#[]⟩; unfold SizeOk; decide), by simp [TypeD.zero], by simp [TypeD.zero]⟩
 | some t => exact h t (findT_some hf).1
theorem iT_form (x y z : TypeD) (i : Int) : (iT x y z i).1 = itemS x i ∨ (iT x y z i).1 = itemS y i ∨ (iT x y z i).1 = itemS z i := three_one _ _ _
theorem sizes_item {t : TypeD} (h : SizesT t) (i : Int) : SizeOk (itemS t i).item := by
 unfold itemS
 cases hf : itemOf t i with
 | none => show SizeOk ⟨#[]⟩; unfold SizeOk; decide
 | some x => exact h.2.2 x (itemOf_some hf).1
theorem sizes_field {t : TypeD} (h : SizesT t) (i : Int) : SizeOk (fieldS t i).field.name ∧ SizeOk (fieldS t i).field.type := by
 unfold fieldS
 cases hf : fieldOf t i with
 | none => show SizeOk ⟨#[]⟩ ∧ SizeOk ⟨#[]⟩; unfold SizeOk; decide
 | some f => exact h.2.1 f (fieldOf_some hf).1
theorem sizes_types {x y z : TypeD} (hx : SizesT x) (hy : SizesT y) (hz : SizesT z) {n : ByteArray} (hn : SizeOk n) : SizesT (typesT x y z n) := by
 refine ⟨hn, ?_, ?_⟩
 ·intro f hf
  obtain ⟨i, _, hi⟩ := List.mem_flatMap.1 (show f ∈ idsL.flatMap (fieldsAt x y z) from hf)
  unfold fieldsAt at hi
  split at hi
  ·cases hi
  ·split at hi
   ·have e : f = (fT x y z i).1.field := by simpa using hi
    rw [e]
    rcases three_one (fieldS x i) (fieldS y i) (fieldS z i) with h | h | h
    ·rw [show (fT x y z i).1 = fieldS x i from h]; exact sizes_field hx i
    ·rw [show (fT x y z i).1 = fieldS y i from h]; exact sizes_field hy i
    ·rw [show (fT x y z i).1 = fieldS z i from h]; exact sizes_field hz i
   ·cases hi
 ·intro u hu
  obtain ⟨i, _, hi⟩ := List.mem_flatMap.1 (show u ∈ (numbersF [x, y, z]).flatMap (itemsAt x y z) from hu)
  unfold itemsAt at hi
  split at hi
  ·cases hi
  ·split at hi
   ·have e : u = ⟨(iT x y z i).1.item, i⟩ := by simpa using hi
    rw [e]
    show SizeOk (iT x y z i).1.item
    rcases iT_form x y z i with h | h | h
    ·rw [h]; exact sizes_item hx i
    ·rw [h]; exact sizes_item hy i
    ·rw [h]; exact sizes_item hz i
   ·cases hi
theorem out_ok {was a b : BookD} (h1 : BookOk was) (h2 : BookOk a) (h3 : BookOk b) : BookOk (outM was a b) := by
 intro t ht
 obtain ⟨n, hn, hi⟩ := List.mem_flatMap.1 ht
 have hsn : SizeOk n := by
  obtain ⟨c, hc, u, hu, rfl⟩ := names_mem.1 hn
  simp only [List.mem_cons, List.not_mem_nil, or_false] at hc
  rcases hc with rfl | rfl | rfl
  ·exact (h1 u hu).1
  ·exact (h2 u hu).1
  ·exact (h3 u hu).1
 unfold nameM at hi
 split at hi
 ·cases hi
 ·split at hi
  ·cases hi
  ·split at hi
   ·cases hi
   ·split at hi
    ·have e : t = tyT was a b n := by simpa using hi
     rw [e]
     exact sizes_types (sizes_typeOf h1 n) (sizes_typeOf h2 n) (sizes_typeOf h3 n) hsn
    ·cases hi
def OB (base : Nat) (w : World) (vt vb : Value) (acc : List TypeD) (B : List FlawD) : Prop :=
 ∃ T : Nat → Prop, (∀ g, T g → base ≤ g ∧ g < w.heap.size) ∧ (∀ k, vb.ownBlock = some k → ¬ T k) ∧ Own base 38 5 RType T w vt acc ∧ Own base 50 3 RFlaw NoT w vb B
section
variable {base : Nat} {w w' : World} {vt vb v' : Value} {acc : List TypeD} {B B' : List FlawD}
theorem OB.nil (base : Nat) (w : World) : OB base w (.slice none 0 0) (.slice none 0 0) [] [] :=
 ⟨fun _ => False, fun _ h => h.elim, fun _ h => by simp [Value.ownBlock] at h, Own.nil_ _ _ _ _ _ _, Own.nil_ _ _ _ _ _ _⟩
theorem OB.below (h : OB base w vt vb acc B) (hb : Below w.heap.size w w') : OB base w' vt vb acc B := by
 obtain ⟨T, h1, h2, h3, h4⟩ := h
 exact ⟨T, fun g hg => ⟨(h1 g hg).1, Nat.lt_of_lt_of_le (h1 g hg).2 hb.size⟩, h2, h3.below RType.fair hb, h4.below RFlaw.fair hb⟩
theorem OB.alloc (h : OB base w vt vb acc B) (o : Obj) : OB base (w.alloc o) vt vb acc B := h.below ((Below.refl _ _).alloc (Nat.le_refl _) o)
theorem OB.drew (h : OB base w vt vb acc B) : OB base w.drew vt vb acc B := h.below (below_drew (Below.refl _ _))
theorem OB.setCell (h : OB base w vt vb acc B) {p : Addr} (u : Value) (hp : p.block < base) : OB base (w.setCell p u) vt vb acc B := by
 obtain ⟨T, h1, h2, h3, h4⟩ := h
 refine ⟨T, fun g hg => ⟨(h1 g hg).1, by simpa [World.setCell] using (h1 g hg).2⟩, h2, h3.setCell RType.fair u (fun e => by have := (h3.lt e).1; omega) (fun e => by have := (h1 _ e).1; omega), h4.setCell RFlaw.fair u (fun e => by have := (h4.lt e).1; omega) (fun h => h)⟩
theorem OB.b (h : OB base w vt vb acc B) : Own base 50 3 RFlaw NoT w vb B := by obtain ⟨_, _, _, _, h⟩ := h; exact h
theorem OB.tlt (h : OB base w vt vb acc B) {k : Nat} (hk : vt.ownBlock = some k) : base ≤ k ∧ k < w.heap.size := by obtain ⟨_, _, _, h, _⟩ := h; exact h.lt hk
theorem OB.tform (h : OB base w vt vb acc B) : ∃ A cap, vt = .slice A acc.length cap ∧ acc.length ≤ cap := by obtain ⟨_, _, _, h, _⟩ := h; exact h.form
theorem OB.pushB (h : OB base w vt vb acc B) (hg : w.grownBy w' vb.ownBlock) (ho : Own base 50 3 RFlaw NoT w' v' B') (hv : v'.ownBlock = vb.ownBlock ∨ v'.ownBlock = some w.heap.size) : OB base w' vt v' acc B' := by
 obtain ⟨T, h1, h2, h3, h4⟩ := h
 refine ⟨T, fun g hg' => ⟨(h1 g hg').1, Nat.lt_of_lt_of_le (h1 g hg').2 hg.size⟩, fun k hk ht => ?_, h3.kept RType.fair hg (h3.ne h4 (by decide)) (fun k hk => h2 k hk), ho⟩
 rcases hv with hv | hv
 ·exact h2 k (hv ▸ hk) ht
 ·rw [hv] at hk; injection hk with hk; have := (h1 k ht).2; omega
theorem OB.take (h : OB base w vt vb acc B) {p q : Nat} {es : List Value} {t : TypeD} (hr : RType (fun g => p ≤ g ∧ g < q) w es t) (hp : base ≤ p) (hq : q ≤ w.heap.size) (ht : ∀ k, vt.ownBlock = some k → k < p ∨ q ≤ k) (hb : ∀ k, vb.ownBlock = some k → k < p ∨ q ≤ k) :
  ∃ T : Nat → Prop, (∀ g, T g → base ≤ g ∧ g < w.heap.size) ∧ (∀ k, vb.ownBlock = some k → ¬ T k) ∧ Own base 38 5 RType T w vt acc ∧ RType T w es t ∧ Own base 50 3 RFlaw NoT w vb B := by
 obtain ⟨T, h1, h2, h3, h4⟩ := h
 have h30 := h3
 obtain ⟨_, _, _, h3n, _⟩ := h30
 refine ⟨fun g => T g ∨ (p ≤ g ∧ g < q), ?_, ?_, h3.mono RType.fair (fun g hg _ => .inl hg) ?_, RType.fair.mono hr (fun g hg _ => .inr hg), h4⟩
 ·rintro g (hg | hg)
  ·exact h1 g hg
  ·exact ⟨by omega, by omega⟩
 ·rintro k hk (hg | hg)
  ·exact h2 k hk hg
  ·have := hb k hk; omega
 ·rintro k hk (hg | hg)
  ·exact h3n k hk hg
  ·have := ht k hk; omega
theorem OB.made {T : Nat → Prop} (h1 : ∀ g, T g → base ≤ g ∧ g < w.heap.size) (h2 : ∀ k, vb.ownBlock = some k → ¬ T k) (h3 : Own base 38 5 RType T w vt acc) (h4 : Own base 50 3 RFlaw NoT w vb B) {acc' : List TypeD} (hg : w.grownBy w' vt.ownBlock) (ho : Own base 38 5 RType T w' v' acc') : OB base w' v' vb acc' B :=
 ⟨T, fun g hg' => ⟨(h1 g hg').1, Nat.lt_of_lt_of_le (h1 g hg').2 hg.size⟩, h2, ho, h4.kept RFlaw.fair hg (h4.ne h3 (by decide)) (fun _ _ h => h)⟩
end
end Go.Proofs.YtihdnjnhhhafkaaGreatDoor
