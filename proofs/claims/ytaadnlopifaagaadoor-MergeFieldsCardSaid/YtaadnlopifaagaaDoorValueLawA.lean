/- Laws of values, plainly: what a good book tells, places, filled. -/
import Derived.Test.YtaadnlopifaagaaDoorValuePlain
namespace Go.Proofs.YtaadnlopifaagaaDoor

theorem findT_some {b : BookD} {name : ByteArray} {t : TypeD} (h : findT b name = some t) : t ∈ b ∧ t.name = name := by
  have h1 := List.mem_of_find?_eq_some h
  have h2 := List.find?_some h
  exact ⟨h1, by simpa using h2⟩
theorem fieldOf_some {t : TypeD} {id : Int} {f : FieldD} (h : fieldOf t id = some f) : f ∈ t.fields ∧ f.id = id := by
  have h1 := List.mem_of_find?_eq_some h
  have h2 := List.find?_some h
  exact ⟨h1, by simpa using h2⟩
theorem good_parts {b : BookD} (h : goodF b = 0) : b.length ≤ 4 ∧ TypesP b ∧ LeastP b := by
  unfold goodF at h
  split at h
  · simp at h
  · split at h
    · simp at h
    · split at h
      · simp at h
      · rename_i h1 h2 h3
        exact ⟨by omega, by simpa using h2, by simpa using h3⟩
theorem good_msg {b : BookD} (h : goodF b = 0) {t : TypeD} (ht : t ∈ b) (he : t.enum = false) : MessageP b t := by
  obtain ⟨_, h1, _⟩ := good_parts h
  obtain ⟨i, hi, rfl⟩ := List.getElem_of_mem ht
  have := (h1 i hi).2.2
  rw [he] at this
  simpa [messageF] using this
theorem good_enum {b : BookD} (h : goodF b = 0) {t : TypeD} (ht : t ∈ b) (he : t.enum = true) : EnumP t := by
  obtain ⟨_, h1, _⟩ := good_parts h
  obtain ⟨i, hi, rfl⟩ := List.getElem_of_mem ht
  have := (h1 i hi).2.2
  rw [he] at this
  simpa [enumF] using this
theorem good_least {b : BookD} (h : goodF b = 0) {t : TypeD} (ht : t ∈ b) (he : t.enum = false) : 1 ≤ leastF b 4 t.name ∧ leastF b 4 t.name ≤ 12 := by
  obtain ⟨_, _, h1⟩ := good_parts h
  obtain ⟨i, hi, rfl⟩ := List.getElem_of_mem ht
  exact h1 i hi he
theorem pairwise_of_next {α : Type} {R : α → α → Prop} (tr : ∀ a b c, R a b → R b c → R a c) : ∀ (l : List α), (∀ i (h : i < l.length), ∀ (_ : 0 < i), R l[i - 1] l[i]) → l.Pairwise R
  | [], _ => .nil
  | [a], _ => by simp
  | a :: b :: l, h => by
    have ht := pairwise_of_next tr (b :: l) (fun i hi h0 => by
      have := h (i + 1) (by simp at hi ⊢; omega) (by omega)
      obtain ⟨j, rfl⟩ : ∃ j, i = j + 1 := ⟨i - 1, by omega⟩
      simpa using this)
    have hab : R a b := h 1 (by simp) (by omega)
    refine List.pairwise_cons.2 ⟨fun c hc => ?_, ht⟩
    rcases List.mem_cons.1 hc with rfl | hc
    · exact hab
    · exact tr _ _ _ hab ((List.pairwise_cons.1 ht).1 c hc)
theorem msg_sorted {b : BookD} {t : TypeD} (h : MessageP b t) : t.fields.Pairwise (fun f g => f.id < g.id) :=
  pairwise_of_next (R := fun f g : FieldD => f.id < g.id) (fun _ _ _ h1 h2 => Int.lt_trans h1 h2) _ fun i hi h0 => (h.2.2.2.2 i hi).2.1 h0
theorem msg_field {b : BookD} {t : TypeD} (h : MessageP b t) {f : FieldD} (hf : f ∈ t.fields) : fieldP b f := by
  obtain ⟨i, hi, rfl⟩ := List.getElem_of_mem hf
  exact (h.2.2.2.2 i hi).1
theorem find_sorted {α : Type} {k : α → Int} : ∀ {l : List α} {f : α}, l.Pairwise (fun f g => k f < k g) → f ∈ l → l.find? (fun g => decide (k g = k f)) = some f
  | a :: l, f, hs, hf => by
    rw [List.find?_cons]
    rcases List.mem_cons.1 hf with rfl | h
    · simp
    · have := (List.pairwise_cons.1 hs).1 f h
      have hne : ¬ k a = k f := by omega
      simp only [hne, decide_false]
      exact find_sorted (List.pairwise_cons.1 hs).2 h
theorem fieldOf_mem {b : BookD} {t : TypeD} (h : MessageP b t) {f : FieldD} (hf : f ∈ t.fields) : fieldOf t f.id = some f := find_sorted (msg_sorted h) hf
/-- The type of a message's field, in a good book. -/
theorem field_msg {b : BookD} (hg : goodF b = 0) {f : FieldD} (hf : fieldP b f) (hk : f.kind = 5) : ∃ t, findT b f.type = some t ∧ typeOf b f.type = t ∧ t ∈ b ∧ t.name = f.type ∧ t.enum = false ∧ MessageP b t := by
  have h1 := (hf.2.2.2.2.2.2.2).2 (by omega)
  obtain ⟨t, ht⟩ := Option.isSome_iff_exists.1 h1.1
  have h2 := h1.2
  rw [ht] at h2
  have he : t.enum = false := by simpa [hk] using h2
  exact ⟨t, ht, by rw [typeOf, ht]; rfl, (findT_some ht).1, (findT_some ht).2, he, good_msg hg (findT_some ht).1 he⟩
theorem field_enum {b : BookD} (hg : goodF b = 0) {f : FieldD} (hf : fieldP b f) (hk : f.kind = 4) : ∃ t, findT b f.type = some t ∧ typeOf b f.type = t ∧ t.enum = true ∧ EnumP t := by
  have h1 := (hf.2.2.2.2.2.2.2).2 (by omega)
  obtain ⟨t, ht⟩ := Option.isSome_iff_exists.1 h1.1
  have h2 := h1.2
  rw [ht] at h2
  have he : t.enum = true := by simpa [hk] using h2
  exact ⟨t, ht, by rw [typeOf, ht]; rfl, he, good_enum hg (findT_some ht).1 he⟩

/-- Two numbers that may follow each other. -/
def Follow (t : TypeD) (i j : Int) : Prop := i ≤ j ∧ (i = j → ((fieldOf t i).getD .zero).rule = 3)
theorem Follow.trans {t : TypeD} {a b c : Int} (h1 : Follow t a b) (h2 : Follow t b c) : Follow t a c :=
  ⟨Int.le_trans h1.1 h2.1, fun h => h1.2 (by have := h1.1; have := h2.1; omega)⟩
theorem place_iff {t : TypeD} {last : Option Int} {id : Int} : placeF t last id = 0 ↔ (fieldOf t id).isSome = true ∧ ∀ k, last = some k → Follow t k id := by
  unfold placeF
  cases hf : fieldOf t id with
  | none => simp
  | some f =>
    cases last with
    | none => simp
    | some k =>
      simp only [Option.isSome_some, Option.some.injEq, true_and, forall_eq', Follow]
      by_cases h1 : id < k
      · rw [if_pos h1]; simp; omega
      · rw [if_neg h1]
        by_cases h2 : k = id ∧ f.rule ≠ 3
        · rw [if_pos h2]
          obtain ⟨rfl, h2⟩ := h2
          simp [hf, h2]
        · rw [if_neg h2]
          simp only [true_iff]
          refine ⟨by omega, ?_⟩
          rintro rfl
          rw [hf]
          simp at h2
          exact h2
/-- Does a value fit the field of a number, all through? -/
def FitP (b : BookD) (t : TypeD) (id : Int) (x : ValueD) : Prop :=
  fitsF b ((fieldOf t id).getD .zero) x = 0 ∧ (((fieldOf t id).getD .zero).kind = 5 → typedF b (typeOf b ((fieldOf t id).getD .zero).type) x = 0)
theorem typedGo_iff (b : BookD) (t : TypeD) : ∀ (l : List ValueD) (ids : List Int) (last : Option Int), ids.length = l.length →
    (typedGo b t last ids l = 0 ↔ (∀ id ∈ ids, (fieldOf t id).isSome = true ∧ ∀ k, last = some k → Follow t k id) ∧ ids.Pairwise (Follow t) ∧ ∀ p ∈ ids.zip l, FitP b t p.1 p.2)
  | [], ids, last, h => by
    have : ids = [] := List.eq_nil_of_length_eq_zero (by simpa using h)
    subst this; simp [typedGo]
  | x :: l, [], last, h => by simp at h
  | x :: l, id :: ids, last, h => by
    have ih := typedGo_iff b t l ids (some id) (by simpa using h)
    have hs : typedGo b t last (id :: ids) (x :: l) = 0 ↔ placeF t last id = 0 ∧ FitP b t id x ∧ typedGo b t (some id) ids l = 0 := by
      rw [typedGo]
      by_cases h1 : placeF t last id = 0
      · rw [if_neg (by simpa using h1)]
        unfold FitP
        by_cases h2 : fitsF b ((fieldOf t id).getD .zero) x = 0
        · rw [if_neg (by simpa using h2)]
          by_cases h3 : ((fieldOf t id).getD .zero).kind = 5 ∧ typedF b (typeOf b ((fieldOf t id).getD .zero).type) x ≠ 0
          · rw [if_pos h3]
            simp [h1, h2, h3.1, h3.2]
          · rw [if_neg h3]
            have h4 : ((fieldOf t id).getD .zero).kind = 5 → typedF b (typeOf b ((fieldOf t id).getD .zero).type) x = 0 := by
              intro h5
              by_cases h6 : typedF b (typeOf b ((fieldOf t id).getD .zero).type) x = 0
              · exact h6
              · exact absurd ⟨h5, h6⟩ h3
            simp [h1, h2]
            intro _
            exact h4
        · rw [if_pos h2]
          simp [h2]
      · rw [if_pos h1]
        simp [h1]
    rw [hs, ih, place_iff]
    simp only [Option.some.injEq, forall_eq', List.mem_cons, forall_eq_or_imp, List.pairwise_cons, List.zip_cons_cons]
    constructor
    · rintro ⟨⟨a1, a2⟩, b1, c1, c2, c3⟩
      exact ⟨⟨⟨a1, a2⟩, fun i hi => ⟨(c1 i hi).1, fun k hk => (a2 k hk).trans (c1 i hi).2⟩⟩, ⟨fun i hi => (c1 i hi).2, c2⟩, b1, c3⟩
    · rintro ⟨⟨⟨a1, a2⟩, a3⟩, ⟨b1, b2⟩, c1, c2⟩
      exact ⟨⟨a1, a2⟩, c1, fun i hi => ⟨(a3 i hi).1, b1 i hi⟩, b2, c2⟩
/-- A message that is of a type, said in parts. -/
theorem typedF_iff (b : BookD) (t : TypeD) (v : ValueD) : typedF b t v = 0 ↔ v.kind = 2 ∧ v.ids.length = v.l.length ∧ v.n = 0 ∧ v.s.size = 0 ∧ (∀ id ∈ v.ids, (fieldOf t id).isSome = true) ∧ v.ids.Pairwise (Follow t) ∧ (∀ p ∈ v.ids.zip v.l, FitP b t p.1 p.2) ∧ fullF t v.ids = true := by
  obtain ⟨kind, n, s, ids, l⟩ := v
  simp only [typedF, ValueD.kind, ValueD.ids, ValueD.l, ValueD.n, ValueD.s]
  by_cases h1 : kind = 2
  · rw [if_neg (by simpa using h1)]
    by_cases h2 : ids.length ≠ l.length ∨ n ≠ 0 ∨ s.size ≠ 0
    · rw [if_pos h2]
      constructor
      · intro h; simp at h
      · rintro ⟨_, a, b, c, _⟩; omega
    · rw [if_neg h2]
      have hl : ids.length = l.length := by omega
      have := typedGo_iff b t l ids none hl
      by_cases h3 : typedGo b t none ids l = 0
      · rw [if_neg (by simpa using h3)]
        have := this.1 h3
        by_cases h4 : fullF t ids = true
        · rw [if_pos h4]
          simp only [true_iff]
          exact ⟨h1, hl, by omega, by omega, fun i hi => (this.1 i hi).1, this.2.1, this.2.2, h4⟩
        · rw [if_neg h4]
          simp [h4]
      · rw [if_pos h3]
        constructor
        · intro h; exact absurd h h3
        · rintro ⟨_, _, _, _, a, b, c, _⟩
          exact this.2 ⟨fun i hi => ⟨a i hi, fun k hk => by cases hk⟩, b, c⟩
  · rw [if_pos h1]
    simp [h1]

theorem filter_front {β : Type} (k : Int) : ∀ (L : List (Int × β)), L.Pairwise (fun p q => p.1 ≤ q.1) → (∀ p ∈ L, k ≤ p.1) → L.filter (fun p => decide (p.1 = k)) ++ L.filter (fun p => decide (p.1 ≠ k)) = L
  | [], _, _ => rfl
  | a :: L, hs, hk => by
    have ih := filter_front k L (List.pairwise_cons.1 hs).2 (fun p hp => hk p (by simp [hp]))
    by_cases h : a.1 = k
    · simp only [List.filter_cons, h, decide_true, if_true, ne_eq, not_true, decide_false]
      simpa using ih
    · have h1 : L.filter (fun p => decide (p.1 = k)) = [] := by
        rw [List.filter_eq_nil_iff]
        intro p hp
        have := (List.pairwise_cons.1 hs).1 p hp
        have := hk a (by simp)
        simp; omega
      rw [h1] at ih
      simp only [List.filter_cons, h, decide_false, ne_eq, not_false_eq_true, decide_true, if_true, h1]
      simpa using ih
theorem flatMap_filter {β : Type} : ∀ (F : List Int) (L : List (Int × β)), F.Pairwise (· < ·) → L.Pairwise (fun p q => p.1 ≤ q.1) → (∀ p ∈ L, p.1 ∈ F) → F.flatMap (fun k => L.filter (fun p => decide (p.1 = k))) = L
  | [], L, _, _, h => by
    cases L with
    | nil => rfl
    | cons a L => exact absurd (h a (by simp)) (by simp)
  | k :: F, L, hF, hL, h => by
    have hk := List.pairwise_cons.1 hF
    have hlo : ∀ p ∈ L, k ≤ p.1 := by
      intro p hp
      rcases List.mem_cons.1 (h p hp) with h1 | h1
      · omega
      · have := hk.1 _ h1; omega
    have ih := flatMap_filter F (L.filter (fun p => decide (p.1 ≠ k))) hk.2 (hL.filter _) (fun p hp => by
      simp only [List.mem_filter, decide_eq_true_eq] at hp
      rcases List.mem_cons.1 (h p hp.1) with h1 | h1
      · exact absurd h1 hp.2
      · exact h1)
    have e : F.flatMap (fun k' => L.filter (fun p => decide (p.1 = k'))) = F.flatMap (fun k' => (L.filter (fun p => decide (p.1 ≠ k))).filter (fun p => decide (p.1 = k'))) := by
      have hmem : ∀ k' ∈ F, k < k' := hk.1
      clear ih hF hk h
      induction F with
      | nil => rfl
      | cons a F ih =>
        rw [List.flatMap_cons, List.flatMap_cons, ih (fun x hx => hmem x (by simp [hx]))]
        congr 1
        rw [List.filter_filter]
        apply List.filter_congr
        intro p _
        have := hmem a (by simp)
        by_cases hp : p.1 = a
        · simp [hp]; omega
        · simp [hp]
    rw [List.flatMap_cons, e, ih]
    exact filter_front k L hL hlo
theorem zip_fst {α β : Type} : ∀ (a : List α) (b : List β), a.length = b.length → (a.zip b).map (·.1) = a
  | [], _, _ => by simp
  | a :: as, [], h => by simp at h
  | a :: as, b :: bs, h => by simp [zip_fst as bs (by simpa using h)]
theorem zip_snd {α β : Type} : ∀ (a : List α) (b : List β), a.length = b.length → (a.zip b).map (·.2) = b
  | [], [], _ => by simp
  | [], b :: bs, h => by simp at h
  | a :: as, [], h => by simp at h
  | a :: as, b :: bs, h => by simp [zip_snd as bs (by simpa using h)]
theorem zip_pair {α β : Type} {R : α → α → Prop} : ∀ (a : List α) (b : List β), a.Pairwise R → (a.zip b).Pairwise (fun p q => R p.1 q.1)
  | [], _, _ => by simp
  | a :: as, [], _ => by simp
  | a :: as, b :: bs, h => by
    have := List.pairwise_cons.1 h
    exact List.pairwise_cons.2 ⟨fun p hp => this.1 _ (List.of_mem_zip hp).1, zip_pair as bs this.2⟩
theorem hasI_iff {l : List Int} {n : Int} : hasI l n = true ↔ n ∈ l := by
  unfold hasI; simp
/-- What is full and in order is filled with nothing. -/
theorem filled_id {b : BookD} {t : TypeD} (hm : MessageP b t) (k : Nat) {ids : List Int} {l : List ValueD} (hl : ids.length = l.length) (hk : ∀ id ∈ ids, (fieldOf t id).isSome = true) (hf : ids.Pairwise (Follow t)) (hu : fullF t ids = true) :
    filledF b k t ids l = msgV ids l := by
  have e1 : ∀ f ∈ t.fields, filledGo b k ids l f = (ids.zip l).filter fun p => decide (p.1 = f.id) := by
    intro f hf
    unfold filledGo
    rw [if_neg, List.nil_append]
    rintro ⟨h1, h2⟩
    have := List.all_eq_true.1 hu f hf
    simp [h1, h2] at this
  have e2 : t.fields.flatMap (filledGo b k ids l) = ids.zip l := by
    have : t.fields.flatMap (filledGo b k ids l) = (t.fields.map (·.id)).flatMap (fun i => (ids.zip l).filter fun p => decide (p.1 = i)) := by
      rw [List.flatMap_map]
      rw [List.flatMap_def, List.flatMap_def, List.map_congr_left e1]
    rw [this]
    refine flatMap_filter _ _ ?_ ((zip_pair ids l hf).imp fun h => h.1) ?_
    · rw [List.pairwise_map]; exact msg_sorted hm
    · intro p hp
      have := hk p.1 (List.of_mem_zip hp).1
      obtain ⟨f, hf⟩ := Option.isSome_iff_exists.1 this
      have := fieldOf_some hf
      exact List.mem_map.2 ⟨f, this.1, this.2⟩
  unfold filledF
  rw [e2, zip_fst _ _ hl, zip_snd _ _ hl]
end Go.Proofs.YtaadnlopifaagaaDoor
