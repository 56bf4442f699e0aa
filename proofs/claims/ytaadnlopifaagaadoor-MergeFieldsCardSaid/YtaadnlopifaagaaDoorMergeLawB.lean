/- Laws of merging, plainly: what is made, and each field of it. -/
import Derived.Test.YtaadnlopifaagaaDoorMergeLaw
namespace Go.Proofs.YtaadnlopifaagaaDoor

/-- What a type of a good book is. -/
structure GoodT (t : TypeD) : Prop where
  fs : t.fields.Pairwise (fun f g => f.id < g.id)
  fi : ∀ f ∈ t.fields, 1 ≤ f.id ∧ f.id ≤ 30
  gs : t.gone.Pairwise (· < ·)
  gi : ∀ g ∈ t.gone, 1 ≤ g ∧ g ≤ 30
  dj : ∀ g ∈ t.gone, fieldOf t g = none
  is : t.items.Pairwise (fun x y => x.n < y.n)
  en : t.enum = true → t.fields = [] ∧ t.gone = []
  me : t.enum = false → t.items = []
theorem goodT_zero : GoodT .zero := ⟨by simp [TypeD.zero], by simp [TypeD.zero], by simp [TypeD.zero], by simp [TypeD.zero], by simp [TypeD.zero], by simp [TypeD.zero], by simp [TypeD.zero], by simp [TypeD.zero]⟩
theorem good_mem {b : BookD} (hg : goodF b = 0) {t : TypeD} (ht : t ∈ b) : GoodT t := by
  cases he : t.enum with
  | true =>
    have h := good_enum hg ht he
    have e1 : t.fields = [] := List.eq_nil_of_length_eq_zero h.2.2.2.1
    have e2 : t.gone = [] := List.eq_nil_of_length_eq_zero h.2.2.2.2
    refine ⟨by simp [e1], by simp [e1], by simp [e2], by simp [e2], by simp [e2], ?_, fun _ => ⟨e1, e2⟩, fun h => (by rw [he] at h; cases h)⟩
    exact pairwise_of_next (R := fun x y : ItemD => x.n < y.n) (fun _ _ _ h1 h2 => Int.lt_trans h1 h2) _ fun i hi h0 => (h.1 i hi).2.2.2.1 h0
  | false =>
    have h := good_msg hg ht he
    have e3 : t.items = [] := List.eq_nil_of_length_eq_zero h.2.1
    refine ⟨msg_sorted h, fun f hf => ⟨(msg_field h hf).2.1, (msg_field h hf).2.2.1⟩, ?_, ?_, ?_, by simp [e3], fun h => (by rw [he] at h; cases h), fun _ => e3⟩
    · exact pairwise_of_next (R := fun x y : Int => x < y) (fun _ _ _ h1 h2 => Int.lt_trans h1 h2) _ fun i hi h0 => (h.2.2.2.1 i hi).2.2.2 h0
    · intro g hgm
      obtain ⟨i, hi, rfl⟩ := List.getElem_of_mem hgm
      have := h.2.2.2.1 i hi
      exact ⟨this.2.1, this.2.2.1⟩
    · intro g hgm
      obtain ⟨i, hi, rfl⟩ := List.getElem_of_mem hgm
      have := (h.2.2.2.1 i hi).1
      cases hf : fieldOf t t.gone[i] with
      | none => rfl
      | some f => rw [hf] at this; cases this
theorem good_typeOf {b : BookD} (hg : goodF b = 0) (name : ByteArray) : GoodT (typeOf b name) := by
  unfold typeOf
  cases h : findT b name with
  | none => exact goodT_zero
  | some t => exact good_mem hg (findT_some h).1
theorem book_sorted {b : BookD} (hg : goodF b = 0) : b.Pairwise (fun t u => ltN t.name u.name) :=
  pairwise_of_next (R := fun t u : TypeD => ltN t.name u.name) (fun _ _ _ => ltN_trans _ _ _) _ fun i hi h0 => (ltS_iff _ _).1 (((good_parts hg).2.1 i hi).2.1 h0)
theorem ltN_irr (a : ByteArray) : ¬ ltN a a := fun h => ltN_asymm _ _ h h
theorem uniq_key {α κ : Type} {r : κ → κ → Prop} (hr : ∀ a, ¬ r a a) {key : α → κ} : ∀ {l : List α}, l.Pairwise (fun t u => r (key t) (key u)) → ∀ {t u : α}, t ∈ l → u ∈ l → key u = key t → u = t
  | a :: l, h, t, u, ht, hu, e => by
    have hp := List.pairwise_cons.1 h
    rcases List.mem_cons.1 ht with ht | ht
    · rcases List.mem_cons.1 hu with hu | hu
      · exact hu.trans ht.symm
      · have := hp.1 u hu; rw [e, ht] at this; exact absurd this (hr _)
    · rcases List.mem_cons.1 hu with hu | hu
      · have := hp.1 t ht; rw [← e, hu] at this; exact absurd this (hr _)
      · exact uniq_key hr hp.2 ht hu e
theorem findT_mem {b : BookD} (hg : goodF b = 0) {t : TypeD} (ht : t ∈ b) : findT b t.name = some t :=
  find_key (key := TypeD.name) ht fun u hu e => uniq_key ltN_irr (key := TypeD.name) (book_sorted hg) ht hu e
theorem GoodT.field {t : TypeD} (h : GoodT t) {f : FieldD} (hf : f ∈ t.fields) : fieldOf t f.id = some f :=
  find_key (key := FieldD.id) hf fun u hu e => uniq_key (fun (a : Int) h => by omega) (key := FieldD.id) h.fs hf hu e
theorem itemOf_some {t : TypeD} {n : Int} {x : ItemD} (h : itemOf t n = some x) : x ∈ t.items ∧ x.n = n := by
  have h1 := List.mem_of_find?_eq_some h
  have h2 := List.find?_some h
  exact ⟨h1, by simpa using h2⟩
theorem GoodT.item {t : TypeD} (h : GoodT t) {x : ItemD} (hx : x ∈ t.items) : itemOf t x.n = some x :=
  find_key (key := ItemD.n) hx fun u hu e => uniq_key (fun (a : Int) h => by omega) (key := ItemD.n) h.is hx hu e

/-- What is made is just R: each state is R's. -/
structure Made (w a b R : BookD) : Prop where
  k : ∀ n, kT w a b n = (kindS R n, true)
  f : ∀ n i, fT (typeOf w n) (typeOf a n) (typeOf b n) i = (fieldS (typeOf R n) i, true)
  g : ∀ n i, gT (typeOf w n) (typeOf a n) (typeOf b n) i = (goneS (typeOf R n) i, true)
  i : ∀ n i, iT (typeOf w n) (typeOf a n) (typeOf b n) i = (itemS (typeOf R n) i, true)
  sub : ∀ t ∈ R, t.name ∈ namesF [w, a, b]
  subi : ∀ n, ∀ x ∈ (typeOf R n).items, x.n ∈ numbersF [typeOf w n, typeOf a n, typeOf b n]
theorem made_left (w a : BookD) : Made w a w a := ⟨fun _ => three_left _ _, fun _ _ => three_left _ _, fun _ _ => three_left _ _, fun _ _ => three_left _ _,
  fun t ht => names_mem.2 ⟨a, by simp, t, ht, rfl⟩, fun n x hx => numbers_mem.2 ⟨typeOf a n, by simp, x, hx, rfl⟩⟩
theorem made_both (w a : BookD) : Made w a a a := ⟨fun _ => three_both _ _, fun _ _ => three_both _ _, fun _ _ => three_both _ _, fun _ _ => three_both _ _,
  fun t ht => names_mem.2 ⟨a, by simp, t, ht, rfl⟩, fun n x hx => numbers_mem.2 ⟨typeOf a n, by simp, x, hx, rfl⟩⟩
theorem made_right (w b : BookD) : Made w w b b := ⟨fun _ => three_right _ _, fun _ _ => three_right _ _, fun _ _ => three_right _ _, fun _ _ => three_right _ _,
  fun t ht => names_mem.2 ⟨b, by simp, t, ht, rfl⟩, fun n x hx => numbers_mem.2 ⟨typeOf b n, by simp, x, hx, rfl⟩⟩
section
variable {w a b R : BookD}
theorem Made.bad (h : Made w a b R) (hR : goodF R = 0) (n : ByteArray) (i : Int) : badId (typeOf w n) (typeOf a n) (typeOf b n) i = false := by
  unfold badId
  rw [h.f, h.g]
  simp only [Bool.not_true, Bool.false_or]
  have hT := good_typeOf hR n
  show ((fieldOf (typeOf R n) i).isSome && hasI (typeOf R n).gone i) = false
  cases hh : hasI (typeOf R n).gone i with
  | false => simp
  | true => rw [hT.dj i (hasI_iff.1 hh)]; rfl
theorem Made.types (h : Made w a b R) (hR : goodF R = 0) (n : ByteArray) : typesT (typeOf w n) (typeOf a n) (typeOf b n) n = ⟨n, false, (typeOf R n).fields, (typeOf R n).gone, (typeOf R n).items⟩ := by
  have hT := good_typeOf hR n
  unfold typesT
  congr 1
  · refine eq_of_lt (r := fun f g : FieldD => f.id < g.id) (fun _ _ h h' => by omega) ?_ hT.fs ?_
    · rw [List.pairwise_flatMap]
      have hk : ∀ i, ∀ f ∈ fieldsAt (typeOf w n) (typeOf a n) (typeOf b n) i, f.id = i := by
        intro i f hf
        unfold fieldsAt at hf
        rw [h.bad hR, h.f] at hf
        simp only [Bool.false_eq_true, if_false] at hf
        cases hfo : fieldOf (typeOf R n) i with
        | none => simp [fieldS, hfo] at hf
        | some f' =>
          have : f = f' := by simpa [fieldS, hfo] using hf
          subst this; exact (fieldOf_some hfo).2
      refine ⟨fun i _ => ?_, ?_⟩
      · unfold fieldsAt
        split
        · simp
        · split <;> simp
      · refine ids_sorted.imp fun {i j} hij f hf g hg => ?_
        rw [hk i f hf, hk j g hg]; exact hij
    · intro f
      rw [List.mem_flatMap]
      have e : ∀ i, fieldsAt (typeOf w n) (typeOf a n) (typeOf b n) i = (fieldOf (typeOf R n) i).toList := by
        intro i
        unfold fieldsAt
        rw [h.bad hR, h.f]
        cases hfo : fieldOf (typeOf R n) i <;> simp [fieldS, hfo]
      constructor
      · rintro ⟨i, _, hf⟩
        rw [e i] at hf
        exact (fieldOf_some (by simpa using hf)).1
      · intro hf
        exact ⟨f.id, ids_mem.2 (hT.fi f hf), by rw [e, hT.field hf]; simp⟩
  · have e : ∀ i, goneAt (typeOf w n) (typeOf a n) (typeOf b n) i = if i ∈ (typeOf R n).gone then [i] else [] := by
      intro i
      unfold goneAt
      rw [h.bad hR, h.f, h.g]
      have e1 : (fieldS (typeOf R n) i).there = (fieldOf (typeOf R n) i).isSome := rfl
      have e2 : (goneS (typeOf R n) i).there = hasI (typeOf R n).gone i := rfl
      simp only [Bool.false_eq_true, if_false, e1, e2]
      by_cases hi : i ∈ (typeOf R n).gone
      · rw [hT.dj i hi, hasI_iff.2 hi]; simp [hi]
      · have : hasI (typeOf R n).gone i = false := by
          cases hh : hasI (typeOf R n).gone i with
          | false => rfl
          | true => exact absurd (hasI_iff.1 hh) hi
        rw [this]; simp [hi]
    refine eq_of_lt (r := fun f g : Int => f < g) (fun _ _ h h' => by omega) ?_ hT.gs ?_
    · rw [List.pairwise_flatMap]
      refine ⟨fun i _ => ?_, ?_⟩
      · rw [e]; split <;> simp
      · refine ids_sorted.imp fun {i j} hij f hf g hg => ?_
        rw [e] at hf hg
        split at hf
        · split at hg
          · simp at hf hg; omega
          · cases hg
        · cases hf
    · intro g
      rw [List.mem_flatMap]
      constructor
      · rintro ⟨i, _, hf⟩
        rw [e] at hf
        split at hf
        · rename_i hi
          have : g = i := by simpa using hf
          subst this; exact hi
        · cases hf
      · intro hg
        exact ⟨g, ids_mem.2 (hT.gi g hg), by rw [e, if_pos hg]; simp⟩
  · have e : ∀ i, itemsAt (typeOf w n) (typeOf a n) (typeOf b n) i = (itemOf (typeOf R n) i).toList := by
      intro i
      unfold itemsAt
      rw [h.i]
      unfold itemS
      cases hfo : itemOf (typeOf R n) i with
      | none => simp [noS]
      | some x =>
        have := (itemOf_some hfo).2
        obtain ⟨xn, xi⟩ := x
        simp at this ⊢
        exact this.symm
    refine eq_of_lt (r := fun f g : ItemD => f.n < g.n) (fun _ _ h h' => by omega) ?_ hT.is ?_
    · rw [List.pairwise_flatMap]
      refine ⟨fun i _ => ?_, ?_⟩
      · rw [e]; cases itemOf (typeOf R n) i <;> simp
      · refine (numbers_sorted _).imp fun {i j} hij f hf g hg => ?_
        rw [e] at hf hg
        have h1 := (itemOf_some (Option.mem_toList.1 hf)).2
        have h2 := (itemOf_some (Option.mem_toList.1 hg)).2
        omega
    · intro x
      rw [List.mem_flatMap]
      constructor
      · rintro ⟨i, _, hf⟩
        rw [e] at hf
        exact (itemOf_some (Option.mem_toList.1 hf)).1
      · intro hx
        exact ⟨x.n, h.subi n x hx, by rw [e, hT.item hx]; simp⟩
theorem Made.noL (h : Made w a b R) (hR : goodF R = 0) (n : ByteArray) : tyL w a b n = [] := by
  unfold tyL typesL
  have e1 : ∀ i, badAt (typeOf w n) (typeOf a n) (typeOf b n) n i = [] := fun i => by unfold badAt; rw [h.bad hR]; rfl
  have e2 : ∀ i, badIt (typeOf w n) (typeOf a n) (typeOf b n) n i = [] := fun i => by unfold badIt; rw [h.i]; rfl
  rw [List.flatMap_eq_nil_iff.2 fun i _ => e1 i, List.flatMap_eq_nil_iff.2 fun i _ => e2 i]
  rfl
theorem Made.name (h : Made w a b R) (hR : goodF R = 0) (n : ByteArray) : nameM w a b n = ((findT R n).toList, []) := by
  have ht : tyT w a b n = ⟨n, (typeOf R n).enum, (typeOf R n).fields, (typeOf R n).gone, (typeOf R n).items⟩ := by
    unfold tyT
    rw [h.types hR, h.k]
    rfl
  have hT := good_typeOf hR n
  unfold nameM
  rw [h.k, h.noL hR, ht]
  rw [if_neg (by simp), if_neg (by simp)]
  cases hf : findT R n with
  | none =>
    have e : typeOf R n = .zero := by unfold typeOf; rw [hf]; rfl
    rw [e, if_neg (by simp [clashF, kindS, hf, TypeD.zero]), if_neg (by simp [kindS, hf])]
    rfl
  | some t =>
    have e : typeOf R n = t := by unfold typeOf; rw [hf]; rfl
    have hn := (findT_some hf).2
    rw [e] at hT ⊢
    rw [if_neg, if_pos (by simp [kindS, hf])]
    · subst hn; rfl
    · unfold clashF
      simp only [kindS, hf, e, Option.isSome_some, Bool.not_true, Bool.false_and, Bool.false_or, Bool.true_and]
      cases he : t.enum with
      | true => rw [(hT.en he).1, (hT.en he).2]; simp
      | false => rw [hT.me he]; simp
/-- What is made of books of which each state is R's, is R. -/
theorem Made.books (h : Made w a b R) (hw : goodF w = 0) (ha : goodF a = 0) (hb : goodF b = 0) (hR : goodF R = 0) : booksM w a b = (R, [], 0) := by
  have hbad : badM w a b = [] := by
    unfold badM
    exact List.flatMap_eq_nil_iff.2 fun n _ => by rw [h.name hR]
  have hout : outM w a b = R := by
    unfold outM
    refine eq_of_lt (r := fun t u : TypeD => ltN t.name u.name) (fun _ _ h h' => ltN_asymm _ _ h h') ?_ (book_sorted hR) ?_
    · rw [List.pairwise_flatMap]
      refine ⟨fun n _ => ?_, ?_⟩
      · rw [h.name hR]; cases findT R n <;> simp
      · refine (names_sorted _).imp fun {m n} hmn t ht u hu => ?_
        rw [h.name hR] at ht hu
        rw [(findT_some (Option.mem_toList.1 ht)).2, (findT_some (Option.mem_toList.1 hu)).2]
        exact hmn
    · intro t
      rw [List.mem_flatMap]
      constructor
      · rintro ⟨n, _, ht⟩
        rw [h.name hR] at ht
        exact (findT_some (Option.mem_toList.1 ht)).1
      · intro ht
        exact ⟨t.name, h.sub t ht, by rw [h.name hR, findT_mem hR ht]; simp⟩
  unfold booksM
  rw [hbad, hout, if_neg (by simp [hw, ha, hb]), if_neg (by simp), if_neg (by simp [hR])]
end
/-- Whoever changes nothing is not in the way, and who has changed the same neither. -/
theorem books_left {w a : BookD} (hw : goodF w = 0) (ha : goodF a = 0) : booksM w a w = (a, [], 0) := (made_left w a).books hw ha hw ha
theorem books_both {w a : BookD} (hw : goodF w = 0) (ha : goodF a = 0) : booksM w a a = (a, [], 0) := (made_both w a).books hw ha ha ha
theorem books_right {w b : BookD} (hw : goodF w = 0) (hb : goodF b = 0) : booksM w w b = (b, [], 0) := (made_right w b).books hw hw hb hb

/-! Each field of what is made. -/
theorem fieldS_off {t : TypeD} {i : Int} (h : (fieldS t i).there = false) : fieldS t i = noS := by
  cases hf : fieldOf t i with
  | none => simp [fieldS, hf, noS]
  | some f => simp [fieldS, hf] at h
theorem fT_form (x y z : TypeD) (i : Int) : ∃ t, (fT x y z i).1 = fieldS t i := by
  rcases three_one (fieldS x i) (fieldS y i) (fieldS z i) with h | h | h
  · exact ⟨x, h⟩
  · exact ⟨y, h⟩
  · exact ⟨z, h⟩
theorem fieldsAt_id {x y z : TypeD} {i : Int} : ∀ f ∈ fieldsAt x y z i, f.id = i := by
  intro f hf
  obtain ⟨t, ht⟩ := fT_form x y z i
  unfold fieldsAt at hf
  split at hf
  · cases hf
  · split at hf
    · rename_i h
      rw [ht] at h hf
      cases hfo : fieldOf t i with
      | none => simp [fieldS, hfo] at h
      | some f' =>
        have : f = f' := by simpa [fieldS, hfo] using hf
        subst this; exact (fieldOf_some hfo).2
    · cases hf
theorem nameM_name {w a b : BookD} {n : ByteArray} : ∀ t ∈ (nameM w a b n).1, t.name = n := by
  intro t ht
  unfold nameM at ht
  split at ht
  · cases ht
  · split at ht
    · cases ht
    · split at ht
      · cases ht
      · split at ht
        · have : t = tyT w a b n := by simpa using ht
          rw [this]; rfl
        · cases ht
theorem nameM_len {w a b : BookD} {n : ByteArray} : (nameM w a b n).1.length ≤ 1 := by
  unfold nameM
  split
  · simp
  · split
    · simp
    · split
      · simp
      · split <;> simp
theorem noS_three : threeF noS noS noS = (noS, true) := three_left _ _
theorem fieldS_out {t : TypeD} (h : GoodT t) {i : Int} (hi : ¬ (1 ≤ i ∧ i ≤ 30)) : fieldS t i = noS := by
  cases hf : fieldOf t i with
  | none => simp [fieldS, hf, noS]
  | some f =>
    have := fieldOf_some hf
    exact absurd (this.2 ▸ h.fi f this.1) hi
/-- A type's fields that are put together by numbers. -/
theorem fieldOf_flat {n : ByteArray} {e : Bool} {g : List Int} {it : List ItemD} {x y z : TypeD} {i : Int} (hi : i ∈ idsL) : fieldOf ⟨n, e, idsL.flatMap (fieldsAt x y z), g, it⟩ i = (fieldsAt x y z i).head? :=
  find_flat (key := FieldD.id) (fun n _ u hu => fieldsAt_id u hu) hi (by
    unfold fieldsAt
    repeat' split
    all_goals simp)
theorem fieldOf_flat_none {n : ByteArray} {e : Bool} {g : List Int} {it : List ItemD} {x y z : TypeD} {i : Int} (hi : i ∉ idsL) : fieldOf ⟨n, e, idsL.flatMap (fieldsAt x y z), g, it⟩ i = none :=
  find_flat_none (key := FieldD.id) (fun n _ u hu => fieldsAt_id u hu) hi
theorem books_ok {w a b : BookD} (h : (booksM w a b).2.2 = 0) : goodF w = 0 ∧ goodF a = 0 ∧ goodF b = 0 ∧ badM w a b = [] ∧ booksM w a b = (outM w a b, [], 0) := by
  unfold booksM at h ⊢
  split at h
  · simp at h
  · rename_i h1
    rw [if_neg h1]
    split at h
    · simp at h
    · rename_i h2
      rw [if_neg h2]
      split at h
      · rename_i h3; simp at h; exact absurd h h3
      · rename_i h3
        rw [if_neg h3]
        exact ⟨by omega, by omega, by omega, List.eq_nil_of_length_eq_zero (by omega), rfl⟩
theorem typeOf_zero {b : BookD} {n : ByteArray} (h : ∀ t ∈ b, t.name ≠ n) : typeOf b n = .zero := by
  have : findT b n = none := by
    unfold findT
    rw [List.find?_eq_none]
    intro t ht; simpa using h t ht
  unfold typeOf
  rw [this]; rfl
/-- Each field of what is made is as whoever changed it has it. -/
theorem made_field {w a b : BookD} (h : (booksM w a b).2.2 = 0) (n : ByteArray) (i : Int) :
    threeF (fieldS (typeOf w n) i) (fieldS (typeOf a n) i) (fieldS (typeOf b n) i) = (fieldS (typeOf (booksM w a b).1 n) i, true) := by
  obtain ⟨hw, ha, hb, hbad, he⟩ := books_ok h
  rw [he]
  show _ = (fieldS (typeOf (outM w a b) n) i, true)
  by_cases hn : n ∈ namesF [w, a, b]
  · have hnb : (nameM w a b n).2 = [] := List.flatMap_eq_nil_iff.1 hbad n hn
    have hfind : findT (outM w a b) n = (nameM w a b n).1.head? := find_flat (key := TypeD.name) (fun m _ => nameM_name) hn nameM_len
    unfold nameM at hnb hfind
    split at hnb
    · cases hnb
    · rename_i h1
      rw [if_neg h1] at hfind
      split at hnb
      · rename_i h2
        rw [show tyL w a b n = [] from hnb] at h2
        simp at h2
      · rename_i h2
        rw [if_neg h2] at hfind
        split at hnb
        · cases hnb
        · rename_i h3
          rw [if_neg h3] at hfind
          have hL : tyL w a b n = [] := List.eq_nil_of_length_eq_zero (by omega)
          have hok : ∀ j ∈ idsL, badId (typeOf w n) (typeOf a n) (typeOf b n) j = false := by
            intro j hj
            have := List.flatMap_eq_nil_iff.1 (List.append_eq_nil_iff.1 hL).1 j hj
            unfold badAt at this
            split at this
            · cases this
            · rename_i hbj; simpa using hbj
          by_cases hi : i ∈ idsL
          · have hbi := hok i hi
            have h2i : (fT (typeOf w n) (typeOf a n) (typeOf b n) i).2 = true := by
              unfold badId at hbi
              cases hx : (fT (typeOf w n) (typeOf a n) (typeOf b n) i).2 with
              | true => rfl
              | false => rw [hx] at hbi; simp at hbi
            have hpair : fT (typeOf w n) (typeOf a n) (typeOf b n) i = ((fT (typeOf w n) (typeOf a n) (typeOf b n) i).1, true) := Prod.ext rfl h2i
            show fT (typeOf w n) (typeOf a n) (typeOf b n) i = _
            rw [hpair]
            congr 1
            obtain ⟨t, ht⟩ := fT_form (typeOf w n) (typeOf a n) (typeOf b n) i
            by_cases hk : (kT w a b n).1.there = true
            · rw [if_pos hk] at hfind
              have htt : typeOf (outM w a b) n = tyT w a b n := by unfold typeOf; rw [hfind]; rfl
              have hfo : fieldOf (tyT w a b n) i = (fieldsAt (typeOf w n) (typeOf a n) (typeOf b n) i).head? := fieldOf_flat hi
              rw [htt]
              unfold fieldS
              rw [hfo]
              unfold fieldsAt
              rw [hbi, if_neg (by simp), ht]
              cases hft : fieldOf t i with
              | none => simp [fieldS, hft]
              | some f => simp [fieldS, hft]
            · rw [if_neg hk] at hfind
              have htt : typeOf (outM w a b) n = .zero := by unfold typeOf; rw [hfind]; rfl
              have hk' : (kT w a b n).1.there = false := by simpa using hk
              have h3' : clashF (kT w a b n).1 (tyT w a b n) = false := by simpa using h3
              unfold clashF at h3'
              rw [hk'] at h3'
              simp only [Bool.not_false, Bool.true_and, Bool.false_and, Bool.or_false, Bool.or_eq_false_iff, decide_eq_false_iff_not] at h3'
              have hfz : (tyT w a b n).fields = [] := List.eq_nil_of_length_eq_zero (by omega)
              have hz := List.flatMap_eq_nil_iff.1 (show idsL.flatMap (fieldsAt (typeOf w n) (typeOf a n) (typeOf b n)) = [] from hfz) i hi
              unfold fieldsAt at hz
              rw [hbi, if_neg (by simp)] at hz
              rw [htt, ht]
              split at hz
              · cases hz
              · rename_i hth
                rw [ht] at hth
                rw [fieldS_off (by simpa using hth)]
                rfl
          · have hi' : ¬ (1 ≤ i ∧ i ≤ 30) := fun h => hi (ids_mem.2 h)
            rw [fieldS_out (good_typeOf hw n) hi', fieldS_out (good_typeOf ha n) hi', fieldS_out (good_typeOf hb n) hi', noS_three]
            congr 1
            by_cases hk : (kT w a b n).1.there = true
            · rw [if_pos hk] at hfind
              have htt : typeOf (outM w a b) n = tyT w a b n := by unfold typeOf; rw [hfind]; rfl
              have hfo : fieldOf (tyT w a b n) i = none := fieldOf_flat_none hi
              rw [htt]
              simp [fieldS, hfo, noS]
            · rw [if_neg hk] at hfind
              have htt : typeOf (outM w a b) n = .zero := by unfold typeOf; rw [hfind]; rfl
              rw [htt]; rfl
  · have hz : ∀ c ∈ [w, a, b], typeOf c n = .zero := fun c hc => typeOf_zero fun t ht e => hn (names_mem.2 ⟨c, hc, t, ht, e⟩)
    have ho : typeOf (outM w a b) n = .zero := by
      have hfind : findT (outM w a b) n = none := find_flat_none (key := TypeD.name) (fun m _ => nameM_name) hn
      unfold typeOf; rw [hfind]; rfl
    rw [hz w (by simp), hz a (by simp), hz b (by simp), ho]
    exact noS_three
theorem made_fields {w a b : BookD} (h : (booksM w a b).2.2 = 0) (n : ByteArray) (i : Int) :
    (fieldS (typeOf w n) i = fieldS (typeOf a n) i → fieldS (typeOf (booksM w a b).1 n) i = fieldS (typeOf b n) i) ∧
    (fieldS (typeOf w n) i ≠ fieldS (typeOf a n) i → fieldS (typeOf w n) i = fieldS (typeOf b n) i ∨ fieldS (typeOf a n) i = fieldS (typeOf b n) i → fieldS (typeOf (booksM w a b).1 n) i = fieldS (typeOf a n) i) ∧
    (fieldS (typeOf w n) i ≠ fieldS (typeOf a n) i → fieldS (typeOf w n) i = fieldS (typeOf b n) i ∨ fieldS (typeOf a n) i = fieldS (typeOf b n) i) := by
  have hm := made_field h n i
  generalize fieldS (typeOf (booksM w a b).1 n) i = X at *
  generalize fieldS (typeOf w n) i = F at *
  generalize fieldS (typeOf a n) i = G at *
  generalize fieldS (typeOf b n) i = H at *
  unfold threeF at hm
  split at hm
  · rename_i h1
    have hX : G = X := congrArg Prod.fst hm
    subst hX
    refine ⟨?_, fun _ _ => rfl, fun hne => ?_⟩
    · rintro rfl; rcases h1 with h1 | h1
      · exact h1
      · exact h1.symm
    · rcases h1 with h1 | h1
      · exact .inr h1
      · exact .inl h1.symm
  · split at hm
    · rename_i h1 h2
      have hX : H = X := congrArg Prod.fst hm
      subst hX
      exact ⟨fun _ => rfl, fun hne => absurd h2.symm hne, fun hne => absurd h2.symm hne⟩
    · cases congrArg Prod.snd hm
/-- Nothing is made that is not good. -/
theorem books_none {w a b : BookD} (h : (booksM w a b).2.2 ≠ 0) : (booksM w a b).1 = [] := by
  unfold booksM at h ⊢
  split
  · rfl
  · split
    · rfl
    · split
      · rfl
      · rename_i h1 h2 h3
        rw [if_neg h1, if_neg h2, if_neg h3] at h
        exact absurd rfl h
end Go.Proofs.YtaadnlopifaagaaDoor
