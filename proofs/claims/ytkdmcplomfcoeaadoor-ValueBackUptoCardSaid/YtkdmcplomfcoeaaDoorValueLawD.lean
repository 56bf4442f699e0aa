/- Laws of values, plainly: the least, and what is decoded. -/
import Derived.Test.YtkdmcplomfcoeaaDoorValueLawC
namespace Go.Proofs.YtkdmcplomfcoeaaDoor

/-- Does the least of a field end? -/
def EndsP (b : BookD) (k : Nat) (f : FieldD) : Prop := f.kind = 5 → 1 ≤ leastF b k f.type
def onesL (t : TypeD) : List FieldD := t.fields.filter fun g => decide (g.rule = 1)
theorem onesL_mem {t : TypeD} {f : FieldD} : f ∈ onesL t ↔ f ∈ t.fields ∧ f.rule = 1 := by simp [onesL]
/-- How many values the least of a field has. -/
def leastN (b : BookD) (k : Nat) (f : FieldD) : Nat := if f.kind = 5 then leastF b k f.type else 1
theorem leastGo_ends {rec : ByteArray → Nat} : ∀ (l : List FieldD) (n : Nat), 1 ≤ leastGo rec l n →
    (∀ f ∈ l, f.rule = 1 → f.kind = 5 → 1 ≤ rec f.type) ∧ leastGo rec l n = n + ((l.filter fun g => decide (g.rule = 1)).map fun f => if f.kind = 5 then rec f.type else 1).sum
  | [], n, _ => by simp [leastGo]
  | f :: l, n, h => by
    rw [leastGo] at h ⊢
    by_cases h1 : f.rule = 1
    · rw [if_pos h1] at h ⊢
      by_cases h5 : f.kind = 5
      · rw [if_pos h5] at h ⊢
        by_cases h0 : rec f.type = 0
        · rw [if_pos h0] at h; omega
        · rw [if_neg h0] at h ⊢
          obtain ⟨a, c⟩ := leastGo_ends l _ h
          refine ⟨?_, ?_⟩
          · intro g hg
            rcases List.mem_cons.1 hg with rfl | hg
            · intro _ _; omega
            · exact a g hg
          · rw [c, List.filter_cons, if_pos (by simpa using h1), List.map_cons, List.sum_cons, if_pos h5]; omega
      · rw [if_neg h5] at h ⊢
        obtain ⟨a, c⟩ := leastGo_ends l _ h
        refine ⟨?_, ?_⟩
        · intro g hg
          rcases List.mem_cons.1 hg with rfl | hg
          · intro _ h; exact absurd h h5
          · exact a g hg
        · rw [c, List.filter_cons, if_pos (by simpa using h1), List.map_cons, List.sum_cons, if_neg h5]; omega
    · rw [if_neg h1] at h ⊢
      obtain ⟨a, c⟩ := leastGo_ends l _ h
      refine ⟨?_, ?_⟩
      · intro g hg
        rcases List.mem_cons.1 hg with rfl | hg
        · intro h; exact absurd h h1
        · exact a g hg
      · rw [c, List.filter_cons, if_neg (by simpa using h1)]
theorem leastF_ends {b : BookD} {k : Nat} {name : ByteArray} (h : 1 ≤ leastF b (k + 1) name) :
    ∃ t, findT b name = some t ∧ t.enum = false ∧ (∀ f ∈ onesL t, EndsP b k f) ∧ leastF b (k + 1) name = 1 + ((onesL t).map (leastN b k)).sum := by
  rw [leastF] at h ⊢
  cases hf : findT b name with
  | none => rw [hf] at h; simp at h
  | some t =>
    rw [hf] at h
    simp only at h ⊢
    split at h
    · simp at h
    · rename_i h1
      rw [if_neg h1]
      obtain ⟨a, c⟩ := leastGo_ends _ _ h
      refine ⟨t, rfl, by simpa using (not_or.1 h1).1, fun f hf => ?_, c⟩
      rw [onesL_mem] at hf
      exact a f hf.1 hf.2
theorem leastF_mono {b : BookD} : ∀ (k : Nat) (name : ByteArray), 1 ≤ leastF b k name → leastF b (k + 1) name = leastF b k name
  | 0, name, h => by simp [leastF] at h
  | k + 1, name, h => by
    have key : ∀ (l : List FieldD) (n : Nat), 1 ≤ leastGo (leastF b k) l n → leastGo (leastF b (k + 1)) l n = leastGo (leastF b k) l n := by
      intro l
      induction l with
      | nil => intro n _; rfl
      | cons f l ih =>
        intro n h
        have e := (leastGo_ends _ _ h).1 f (by simp)
        rw [leastGo] at h
        rw [leastGo, leastGo]
        by_cases h1 : f.rule = 1
        · rw [if_pos h1] at h ⊢
          rw [if_pos h1]
          by_cases h5 : f.kind = 5
          · rw [if_pos h5] at h ⊢
            rw [if_pos h5, leastF_mono k f.type (e h1 h5)]
            by_cases h0 : leastF b k f.type = 0
            · rw [if_pos h0, if_pos h0]
            · rw [if_neg h0] at h ⊢
              rw [if_neg h0]
              exact ih _ h
          · rw [if_neg h5] at h ⊢
            rw [if_neg h5]
            exact ih _ h
        · rw [if_neg h1] at h ⊢
          rw [if_neg h1]
          exact ih _ h
    rw [leastF] at h ⊢
    conv => rhs; rw [leastF]
    cases hf : findT b name with
    | none => rfl
    | some t =>
      rw [hf] at h
      simp only at h ⊢
      split at h
      · simp at h
      · rename_i h1
        rw [if_neg h1, if_neg h1]
        exact key _ _ h

theorem leastOfF_msg {b : BookD} {k : Nat} {f : FieldD} (h : f.kind = 5) : leastOfF b (k + 1) f = leastTF b k (typeOf b f.type) := by
  rw [leastOfF, if_neg (by omega), if_neg (by omega), if_pos h]
  rfl
theorem countL_map {b : BookD} {k : Nat} : ∀ (l : List FieldD), (∀ f ∈ l, countV (leastOfF b k f) = leastN b k f) → countL (l.map (leastOfF b k)) = (l.map (leastN b k)).sum
  | [], _ => rfl
  | f :: l, h => by
    rw [List.map_cons, countL, List.map_cons, List.sum_cons, h f (by simp), countL_map l (fun g hg => h g (by simp [hg]))]
theorem least_count {b : BookD} : ∀ (k : Nat) (f : FieldD), EndsP b k f → countV (leastOfF b k f) = leastN b k f
  | k, f, h => by
    unfold leastN
    by_cases h5 : f.kind = 5
    · rw [if_pos h5]
      have h1 := h h5
      cases k with
      | zero => simp [leastF] at h1
      | succ k =>
        obtain ⟨t, ht, _, he, hc⟩ := leastF_ends h1
        rw [leastOfF_msg h5, hc, typeOf, ht, leastTF, msgV, countV]
        have := countL_map (b := b) (k := k) (onesL t) (fun g hg => least_count k g (he g hg))
        unfold onesL at this
        simp only [Option.getD_some]
        rw [this]
        unfold onesL
        omega
    · rw [if_neg h5, leastOfF.eq_def]
      split
      · rfl
      · split
        · rfl
        · rfl
theorem least_depth {b : BookD} : ∀ (k : Nat) (f : FieldD), depthV (leastOfF b k f) ≤ k + 1
  | k, f => by
    by_cases h5 : f.kind = 5
    · cases k with
      | zero => rw [leastOfF, if_neg (by omega), if_neg (by omega), if_pos h5]; simp [ValueD.zero, depthV, depthL]
      | succ k =>
        rw [leastOfF_msg h5, leastTF, msgV, depthV]
        have := depthL_le (n := k + 1) (l := (((typeOf b f.type).fields.filter fun g => decide (g.rule = 1)).map (leastOfF b k))) (fun x hx => by
          obtain ⟨g, _, rfl⟩ := List.mem_map.1 hx
          exact least_depth k g)
        omega
    · rw [leastOfF.eq_def]
      split
      · simp [depthV, depthL]
      · split
        · simp [depthV, depthL]
        · simp [ValueD.zero, depthV, depthL]

theorem zip_map_mem {α β γ : Type} {f : α → β} {g : α → γ} : ∀ {l : List α} {p : β × γ}, p ∈ (l.map f).zip (l.map g) → ∃ x ∈ l, p = (f x, g x)
  | [], p, h => by simp at h
  | a :: l, p, h => by
    simp only [List.map_cons, List.zip_cons_cons, List.mem_cons] at h
    rcases h with rfl | h
    · exact ⟨a, by simp, rfl⟩
    · obtain ⟨x, hx, e⟩ := zip_map_mem h
      exact ⟨x, by simp [hx], e⟩
theorem follow_lt {t : TypeD} {i j : Int} (h : i < j) : Follow t i j := ⟨by omega, fun e => by omega⟩
/-- The least of a type is of the type, where its fields' leasts fit. -/
theorem leastT_typed {b : BookD} {t : TypeD} (hm : MessageP b t) {k : Nat} (h : ∀ f ∈ onesL t, fitsF b f (leastOfF b k f) = 0 ∧ (f.kind = 5 → typedF b (typeOf b f.type) (leastOfF b k f) = 0)) : typedF b t (leastTF b k t) = 0 := by
  rw [typedF_iff]
  refine ⟨rfl, by simp [leastTF, msgV, ValueD.ids, ValueD.l], rfl, rfl, ?_, ?_, ?_, ?_⟩
  · intro id hid
    obtain ⟨f, hf, rfl⟩ := List.mem_map.1 hid
    rw [fieldOf_mem hm (List.mem_filter.1 hf).1]; rfl
  · show ((t.fields.filter fun g => decide (g.rule = 1)).map (·.id)).Pairwise (Follow t)
    rw [List.pairwise_map]
    exact ((msg_sorted hm).filter _).imp fun h => follow_lt h
  · intro p hp
    obtain ⟨f, hf, rfl⟩ := zip_map_mem hp
    unfold FitP
    simp only [fieldOf_mem hm (List.mem_filter.1 hf).1, Option.getD_some]
    exact h f hf
  · show fullF t ((t.fields.filter fun g => decide (g.rule = 1)).map (·.id)) = true
    unfold fullF
    rw [List.all_eq_true]
    intro f hf
    by_cases h1 : f.rule = 1
    · have : hasI ((t.fields.filter fun g => decide (g.rule = 1)).map (·.id)) f.id = true := hasI_iff.2 (List.mem_map.2 ⟨f, by simp [hf, h1], rfl⟩)
      rw [this]; simp
    · simp [h1]
/-- The least of a field fits it. -/
theorem least_fits {b : BookD} (hg : goodF b = 0) : ∀ (k : Nat) (f : FieldD), fieldP b f → EndsP b k f → fitsF b f (leastOfF b k f) = 0 ∧ (f.kind = 5 → typedF b (typeOf b f.type) (leastOfF b k f) = 0)
  | k, f, hf, he => by
    by_cases h5 : f.kind = 5
    · have h1 := he h5
      cases k with
      | zero => simp [leastF] at h1
      | succ k =>
        obtain ⟨t, ht, _, hen, _⟩ := leastF_ends h1
        obtain ⟨t2, ht2, hty, _, _, _, hm⟩ := field_msg hg hf h5
        obtain rfl : t = t2 := by rw [ht] at ht2; exact Option.some.inj ht2
        rw [leastOfF_msg h5, hty]
        refine ⟨?_, fun _ => leastT_typed hm fun g hgm => least_fits hg k g (msg_field hm (onesL_mem.1 hgm).1) (hen g hgm)⟩
        unfold fitsF
        have e1 : (leastTF b k t).kind = 2 := rfl
        have e2 : oddF (leastTF b k t) = false := odd_iff.2 ⟨fun h => absurd rfl h, fun _ => rfl, fun _ => rfl⟩
        rw [if_neg (by rw [e1, h5]; decide), if_neg (by rw [e2]; decide), if_neg (by omega), if_neg (by omega), if_neg (by omega), if_neg (by omega)]
    · refine ⟨?_, fun h => absurd h h5⟩
      obtain ⟨_, _, _, k1, k2, _⟩ := id hf
      unfold fitsF
      by_cases h3 : f.kind = 3
      · have e : leastOfF b k f = .mk 1 0 ⟨#[]⟩ [] [] := by rw [leastOfF.eq_def, if_pos h3]
        rw [e, h3]; rfl
      · by_cases h4 : f.kind = 4
        · obtain ⟨t, ht, hty, _, hen⟩ := field_enum hg hf h4
          have e : leastOfF b k f = .mk 0 (((typeOf b f.type).items.head?.map (·.n)).getD 0) ⟨#[]⟩ [] [] := by rw [leastOfF.eq_def, if_neg h3, if_pos h4]
          have hit : 0 < t.items.length := by have := hen.2.1; omega
          have hh : (t.items.head?.map (·.n)).getD 0 = t.items[0].n := by rw [List.head?_eq_getElem?, List.getElem?_eq_getElem hit]; rfl
          rw [e, hty, hh]
          have hmean : meansF ((findT b f.type).getD .zero) t.items[0].n = true := by
            rw [ht]
            exact List.any_eq_true.2 ⟨t.items[0], List.getElem_mem _, by simp⟩
          have e2 : oddF (.mk 0 t.items[0].n ⟨#[]⟩ [] []) = false := odd_iff.2 ⟨fun _ => ⟨rfl, rfl⟩, fun h => absurd rfl h, fun _ => rfl⟩
          rw [if_neg (by rw [h4]; exact fun h => h rfl), if_neg (by rw [e2]; decide), if_neg (by omega), if_neg (by omega), if_neg (by omega), if_pos h4]
          exact if_pos hmean
        · have e : leastOfF b k f = .zero := by rw [leastOfF.eq_def, if_neg h3, if_neg h4, if_neg h5]
          rw [e]
          have e2 : oddF .zero = false := rfl
          have e3 : kindOf f.kind = 0 := by unfold kindOf; rw [if_neg h3, if_neg h5]
          rw [if_neg (by rw [e3]; exact fun h => h rfl), if_neg (by rw [e2]; decide)]
          have : f.kind = 1 ∨ f.kind = 2 := by omega
          rcases this with h | h
          · rw [if_pos h]; rfl
          · rw [if_neg (by omega), if_pos h]; rfl
/-- In a good book the leasts of a message's fields end. -/
theorem good_ends {b : BookD} (hg : goodF b = 0) {t : TypeD} (hm : MessageP b t) {f : FieldD} (hf : f ∈ t.fields) : EndsP b 4 f := by
  intro h5
  obtain ⟨t2, _, _, hmem, hn, he, _⟩ := field_msg hg (msg_field hm hf) h5
  have := good_least hg hmem he
  rw [hn] at this
  omega
theorem good_leastT {b : BookD} (hg : goodF b = 0) {t : TypeD} (hm : MessageP b t) : typedF b t (leastTF b 4 t) = 0 :=
  leastT_typed hm fun f hf => least_fits hg 4 f (msg_field hm (onesL_mem.1 hf).1) (good_ends hg hm (onesL_mem.1 hf).1)
theorem good_leastN {b : BookD} (hg : goodF b = 0) {t : TypeD} (ht : t ∈ b) (hfi : findT b t.name = some t) (he : t.enum = false) : countV (leastTF b 4 t) = leastF b 4 t.name := by
  have hm := good_msg hg ht he
  have h1 := (good_least hg ht he).1
  rw [← leastF_mono 4 t.name h1]
  obtain ⟨t2, ht2, _, hen, hc⟩ := leastF_ends (k := 4) (by rw [leastF_mono 4 t.name h1]; exact h1)
  obtain rfl : t = t2 := by rw [hfi] at ht2; exact Option.some.inj ht2
  rw [hc, leastTF, msgV, countV]
  have := countL_map (b := b) (k := 4) (onesL t) (fun g hg => least_count 4 g (hen g hg))
  unfold onesL at this ⊢
  rw [this]
  omega
end Go.Proofs.YtkdmcplomfcoeaaDoor
