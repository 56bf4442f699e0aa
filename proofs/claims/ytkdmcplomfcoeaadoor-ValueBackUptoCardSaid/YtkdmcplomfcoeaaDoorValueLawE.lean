/- Laws of values, plainly: what is decoded is of the type, and not too large. -/
import Derived.Test.YtkdmcplomfcoeaaDoorValueLawD
namespace Go.Proofs.YtkdmcplomfcoeaaDoor

theorem fits_msg {b : BookD} {f : FieldD} {x : ValueD} (h5 : f.kind = 5) (h1 : x.kind = 2) (h2 : x.n = 0) (h3 : x.s.size = 0) : fitsF b f x = 0 := by
  unfold fitsF
  have e2 : oddF x = false := odd_iff.2 ⟨fun h => absurd h1 h, fun _ => h2, fun _ => h3⟩
  rw [if_neg (by rw [h1, h5]; decide), if_neg (by rw [e2]; decide), if_neg (by omega), if_neg (by omega), if_neg (by omega), if_neg (by omega)]
/-- What stands in the rows that are being read. -/
structure Held (b : BookD) (t : TypeD) (last : Option Int) (ai : List Int) (al : List ValueD) : Prop where
  len : ai.length = al.length
  known : ∀ id ∈ ai, (fieldOf t id).isSome = true
  order : ai.Pairwise (Follow t)
  fit : ∀ p ∈ ai.zip al, FitP b t p.1 p.2
  up : ∀ i ∈ ai, ∃ k, last = some k ∧ i ≤ k
theorem Held.on {b : BookD} {t : TypeD} {last : Option Int} {ai : List Int} {al : List ValueD} (h : Held b t last ai al) {id : Int} (hf : fallsF last id = false) : Held b t (some id) ai al :=
  ⟨h.len, h.known, h.order, h.fit, fun i hi => by
    obtain ⟨k, hk, hik⟩ := h.up i hi
    subst hk
    have : ¬ id < k := by simpa [fallsF] using hf
    exact ⟨id, rfl, by omega⟩⟩
theorem Held.put {b : BookD} {t : TypeD} {last : Option Int} {ai : List Int} {al : List ValueD} (h : Held b t last ai al) {id : Int} (hf : fallsF last id = false) {f : FieldD} (hff : fieldOf t id = some f) (ht : ¬ (f.rule ≠ 3 ∧ hasI ai id = true))
    {x : ValueD} (hx : fitsF b f x = 0) (hx5 : f.kind = 5 → typedF b (typeOf b f.type) x = 0) : Held b t (some id) (ai ++ [id]) (al ++ [x]) := by
  have h' := h.on hf
  refine ⟨by simp [h.len], ?_, ?_, ?_, ?_⟩
  · intro i hi
    rcases List.mem_append.1 hi with hi | hi
    · exact h.known i hi
    · simp at hi; subst hi; rw [hff]; rfl
  · rw [List.pairwise_append]
    refine ⟨h.order, by simp, ?_⟩
    intro i hi j hj
    simp at hj; subst hj
    obtain ⟨k, hk, hik⟩ := h'.up i hi
    cases hk
    refine ⟨hik, ?_⟩
    rintro rfl
    rw [hff]
    by_cases h3 : f.rule = 3
    · exact h3
    · exact absurd ⟨h3, hasI_iff.2 hi⟩ ht
  · intro p hp
    rw [List.zip_append h.len] at hp
    rcases List.mem_append.1 hp with hp | hp
    · exact h.fit p hp
    · simp at hp; subst hp
      unfold FitP
      simp only [hff, Option.getD_some]
      exact ⟨hx, hx5⟩
  · intro i hi
    rcases List.mem_append.1 hi with hi | hi
    · exact h'.up i hi
    · simp at hi; exact ⟨id, rfl, by omega⟩
def partN (p : Part) : Nat := p.s.size + 1
theorem countL_append : ∀ (a b : List ValueD), countL (a ++ b) = countL a + countL b
  | [], b => by simp [countL]
  | x :: a, b => by rw [List.cons_append, countL, countL, countL_append a b]; omega
theorem countV_bare (p : Part) : countV (bareV p) = 1 := by simp [bareV, countV, countL]
theorem depthV_bare (p : Part) : depthV (bareV p) = 1 := by simp [bareV, depthV, depthL]
theorem decGo_held {b : BookD} {t : TypeD} {rec : TypeD → List UInt8 → ValueD × Int} {D : Nat} (hD : 1 ≤ D) (hgf : ∀ f ∈ t.fields, fieldP b f)
    (hr : ∀ f s, fieldP b f → f.kind = 5 → (rec (typeOf b f.type) s).2 = 0 → typedF b (typeOf b f.type) (rec (typeOf b f.type) s).1 = 0 ∧ countV (rec (typeOf b f.type) s).1 ≤ 12 + 12 * s.length ∧ depthV (rec (typeOf b f.type) s).1 ≤ D) :
    ∀ (ps : List Part) (last : Option Int) (ai : List Int) (al : List ValueD), Held b t last ai al → (∀ x ∈ al, depthV x ≤ D) → (decGo b rec t last ps ai al).2 = 0 →
    (∃ last', Held b t last' (decGo b rec t last ps ai al).1.1 (decGo b rec t last ps ai al).1.2) ∧ (∀ x ∈ (decGo b rec t last ps ai al).1.2, depthV x ≤ D) ∧ countL (decGo b rec t last ps ai al).1.2 ≤ countL al + 12 * (ps.map partN).sum
  | [], last, ai, al, h, hd, _ => ⟨⟨last, h⟩, hd, by simp [decGo]⟩
  | p :: ps, last, ai, al, h, hd, he => by
    rw [decGo] at he ⊢
    rw [List.map_cons, List.sum_cons]
    by_cases h1 : fallsF last p.id = true
    · rw [if_pos h1] at he; simp at he
    · rw [if_neg h1] at he ⊢
      have hfa : fallsF last p.id = false := by simpa using h1
      cases hff : fieldOf t p.id with
      | none =>
        rw [hff] at he
        simp only at he ⊢
        obtain ⟨a1, a2, a3⟩ := decGo_held hD hgf hr ps _ ai al (h.on hfa) hd he
        exact ⟨a1, a2, by omega⟩
      | some f =>
        rw [hff] at he
        simp only at he ⊢
        by_cases h2 : fitsF b f (bareV p) = 0
        · rw [if_neg (by simpa using h2)] at he ⊢
          by_cases h3 : f.rule ≠ 3 ∧ hasI ai p.id = true
          · rw [if_pos h3] at he; simp at he
          · rw [if_neg h3] at he ⊢
            by_cases h5 : f.kind = 5
            · rw [if_pos h5] at he ⊢
              by_cases h6 : (rec (typeOf b f.type) (bytes p.s)).2 = 0
              · rw [if_neg (by simpa using h6)] at he ⊢
                obtain ⟨r1, r2, r3⟩ := hr f _ (hgf f (fieldOf_some hff).1) h5 h6
                have ht := (typedF_iff b _ _).1 r1
                obtain ⟨a1, a2, a3⟩ := decGo_held hD hgf hr ps _ _ _ (h.put hfa hff h3 (fits_msg h5 ht.1 ht.2.2.1 ht.2.2.2.1) (fun _ => r1)) (fun x hx => by
                  rcases List.mem_append.1 hx with hx | hx
                  · exact hd x hx
                  · simp at hx; subst hx; exact r3) he
                refine ⟨a1, a2, ?_⟩
                rw [countL_append] at a3
                simp only [countL, bytes_len] at a3 r2
                unfold partN at a3 ⊢
                omega
              · rw [if_pos h6] at he; exact absurd he h6
            · rw [if_neg h5] at he ⊢
              obtain ⟨a1, a2, a3⟩ := decGo_held hD hgf hr ps _ _ _ (h.put hfa hff h3 h2 (fun h => absurd h h5)) (fun x hx => by
                rcases List.mem_append.1 hx with hx | hx
                · exact hd x hx
                · simp at hx; subst hx; rw [depthV_bare]; exact hD) he
              refine ⟨a1, a2, ?_⟩
              rw [countL_append] at a3
              simp only [countL, countV_bare] at a3
              unfold partN at a3 ⊢
              omega
        · rw [if_pos h2] at he; exact absurd he h2

theorem filledGo_fst {b : BookD} {k : Nat} {ids : List Int} {l : List ValueD} {f : FieldD} {p : Int × ValueD} (h : p ∈ filledGo b k ids l f) : p.1 = f.id ∧ ((p = (f.id, leastOfF b k f) ∧ f.rule = 1) ∨ p ∈ ids.zip l) := by
  unfold filledGo at h
  rcases List.mem_append.1 h with h | h
  · split at h
    · rename_i h1
      simp at h; subst h; exact ⟨rfl, .inl ⟨rfl, h1.1⟩⟩
    · simp at h
  · simp only [List.mem_filter, decide_eq_true_eq] at h
    exact ⟨h.2, .inr h.1⟩
/-- What is filled is of the type. -/
theorem filled_typed {b : BookD} (hg : goodF b = 0) {t : TypeD} (hm : MessageP b t) {last : Option Int} {ids : List Int} {l : List ValueD} (h : Held b t last ids l) : typedF b t (filledF b 4 t ids l) = 0 := by
  rw [typedF_iff]
  have hmem : ∀ p ∈ t.fields.flatMap (filledGo b 4 ids l), ∃ f ∈ t.fields, p ∈ filledGo b 4 ids l f := fun p hp => by simpa using hp
  refine ⟨rfl, by simp [filledF, msgV, ValueD.ids, ValueD.l], rfl, rfl, ?_, ?_, ?_, ?_⟩
  · intro id hid
    obtain ⟨p, hp, rfl⟩ := List.mem_map.1 hid
    obtain ⟨f, hf, hpf⟩ := hmem p hp
    rw [(filledGo_fst hpf).1, fieldOf_mem hm hf]; rfl
  · show ((t.fields.flatMap (filledGo b 4 ids l)).map (·.1)).Pairwise (Follow t)
    rw [List.pairwise_map, List.pairwise_flatMap]
    refine ⟨?_, ?_⟩
    · intro f hf
      unfold filledGo
      have hfl : ((ids.zip l).filter fun p => decide (p.1 = f.id)).Pairwise (fun p q => Follow t p.1 q.1) := (zip_pair ids l h.order).filter _
      split
      · rename_i h1
        have : ((ids.zip l).filter fun p => decide (p.1 = f.id)) = [] := by
          rw [List.filter_eq_nil_iff]
          intro p hp
          simp only [decide_eq_true_eq]
          intro e
          have h2 := h1.2
          rw [← e, hasI_iff.2 (List.of_mem_zip hp).1] at h2
          cases h2
        rw [this]; simp
      · rw [List.nil_append]; exact hfl
    · refine (msg_sorted hm).imp fun {f g} hfg p hp q hq => ?_
      rw [(filledGo_fst hp).1, (filledGo_fst hq).1]
      exact follow_lt hfg
  · intro p hp
    have hz : p ∈ t.fields.flatMap (filledGo b 4 ids l) := by
      have : ∀ (L : List (Int × ValueD)), (L.map (·.1)).zip (L.map (·.2)) = L := by
        intro L; induction L with
        | nil => rfl
        | cons a L ih => simp [ih]
      have hp' : p ∈ ((t.fields.flatMap (filledGo b 4 ids l)).map (·.1)).zip ((t.fields.flatMap (filledGo b 4 ids l)).map (·.2)) := hp
      rwa [this] at hp'
    obtain ⟨f, hf, hpf⟩ := hmem p hz
    obtain ⟨e, h1 | h1⟩ := filledGo_fst hpf
    · rw [h1.1]
      unfold FitP
      simp only [fieldOf_mem hm hf, Option.getD_some]
      exact least_fits hg 4 f (msg_field hm hf) (good_ends hg hm hf)
    · exact h.fit p h1
  · show fullF t ((t.fields.flatMap (filledGo b 4 ids l)).map (·.1)) = true
    unfold fullF
    rw [List.all_eq_true]
    intro f hf
    by_cases h1 : f.rule = 1
    · have : hasI ((t.fields.flatMap (filledGo b 4 ids l)).map (·.1)) f.id = true := by
        rw [hasI_iff, List.mem_map]
        by_cases h2 : hasI ids f.id = true
        · have h2' := hasI_iff.1 h2
          obtain ⟨i, hi, he⟩ := List.getElem_of_mem h2'
          refine ⟨(ids[i], l[i]'(by have := h.len; omega)), List.mem_flatMap.2 ⟨f, hf, ?_⟩, he⟩
          unfold filledGo
          refine List.mem_append.2 (.inr (List.mem_filter.2 ⟨?_, by simpa using he⟩))
          exact List.mem_iff_getElem.2 ⟨i, by have := h.len; simp; omega, by simp⟩
        · refine ⟨(f.id, leastOfF b 4 f), List.mem_flatMap.2 ⟨f, hf, ?_⟩, rfl⟩
          unfold filledGo
          refine List.mem_append.2 (.inl ?_)
          rw [if_pos ⟨h1, by simpa using h2⟩]; simp
      rw [this]; simp
    · simp [h1]
theorem filled_count {b : BookD} (hg : goodF b = 0) {t : TypeD} (ht : t ∈ b) (hfi : findT b t.name = some t) (he : t.enum = false) {last : Option Int} {ids : List Int} {l : List ValueD} (h : Held b t last ids l) : countV (filledF b 4 t ids l) ≤ 12 + countL l := by
  have hm := good_msg hg ht he
  have h1 := good_least hg ht he
  obtain ⟨t2, ht2, _, hen, hc⟩ := leastF_ends (k := 4) (by rw [leastF_mono 4 t.name h1.1]; exact h1.1)
  obtain rfl : t = t2 := by rw [hfi] at ht2; exact Option.some.inj ht2
  rw [leastF_mono 4 t.name h1.1] at hc
  have key : ∀ (F : List FieldD), (∀ f ∈ F, f ∈ t.fields) → countL ((F.flatMap (filledGo b 4 ids l)).map (·.2)) ≤ ((F.filter fun g => decide (g.rule = 1)).map (leastN b 4)).sum + countL ((F.flatMap (fun f => (ids.zip l).filter fun p => decide (p.1 = f.id))).map (·.2)) := by
    intro F
    induction F with
    | nil => intro _; simp [countL]
    | cons f F ih =>
      intro hF
      have ih := ih (fun g hg => hF g (by simp [hg]))
      rw [List.flatMap_cons, List.map_append, countL_append, List.flatMap_cons, List.map_append, countL_append]
      conv => lhs; lhs; unfold filledGo
      rw [List.map_append, countL_append]
      by_cases hr : f.rule = 1
      · have ef : (f :: F).filter (fun g => decide (g.rule = 1)) = f :: F.filter (fun g => decide (g.rule = 1)) := by simp [hr]
        rw [ef, List.map_cons (f := leastN b 4), List.sum_cons]
        have : countL ((if f.rule = 1 ∧ hasI ids f.id = false then [(f.id, leastOfF b 4 f)] else []).map (·.2)) ≤ leastN b 4 f := by
          split
          · simp only [List.map_cons, List.map_nil, countL]
            rw [least_count 4 f (hen f (onesL_mem.2 ⟨hF f (by simp), hr⟩))]; omega
          · simp [countL]
        omega
      · have ef : (f :: F).filter (fun g => decide (g.rule = 1)) = F.filter (fun g => decide (g.rule = 1)) := by simp [hr]
        rw [ef, if_neg (fun h => hr h.1)]
        simp only [List.map_nil, countL]
        omega
  have k1 := key t.fields (fun f hf => hf)
  have e2 : t.fields.flatMap (fun f => (ids.zip l).filter fun p => decide (p.1 = f.id)) = ids.zip l := by
    have : t.fields.flatMap (fun f => (ids.zip l).filter fun p => decide (p.1 = f.id)) = (t.fields.map (·.id)).flatMap (fun i => (ids.zip l).filter fun p => decide (p.1 = i)) := by
      rw [List.flatMap_map]
    rw [this]
    refine flatMap_filter _ _ ?_ ((zip_pair ids l h.order).imp fun h => h.1) ?_
    · rw [List.pairwise_map]; exact msg_sorted hm
    · intro p hp
      obtain ⟨f, hf⟩ := Option.isSome_iff_exists.1 (h.known p.1 (List.of_mem_zip hp).1)
      have := fieldOf_some hf
      exact List.mem_map.2 ⟨f, this.1, this.2⟩
  rw [e2, zip_snd _ _ h.len] at k1
  unfold filledF msgV
  rw [countV]
  unfold onesL at hc
  omega
theorem filled_depth {b : BookD} {t : TypeD} {ids : List Int} {l : List ValueD} {D : Nat} (hD : 5 ≤ D) (h : ∀ x ∈ l, depthV x ≤ D) : depthV (filledF b 4 t ids l) ≤ D + 1 := by
  unfold filledF msgV
  rw [depthV]
  have := depthL_le (n := D) (l := (t.fields.flatMap (filledGo b 4 ids l)).map (·.2)) (fun x hx => by
    obtain ⟨p, hp, rfl⟩ := List.mem_map.1 hx
    obtain ⟨f, hf, hpf⟩ := List.mem_flatMap.1 hp
    obtain ⟨_, h1 | h1⟩ := filledGo_fst hpf
    · rw [h1.1]; have := least_depth (b := b) 4 f; simp only; omega
    · exact h _ (List.of_mem_zip h1).2)
  omega
theorem held_nil (b : BookD) (t : TypeD) : Held b t none [] [] := ⟨rfl, by simp, by simp, by simp, by simp⟩
theorem sev_pos (n : Nat) : 1 ≤ (sev n).length := by
  have := sev_ne n
  cases h : sev n with
  | nil => exact absurd h this
  | cons a l => simp
theorem partN_enc {p : Part} (h : goodP p = true) : partN p ≤ (encP p).length := by
  have hb := good_bounds h
  unfold partN encP
  have := sev_pos (4 * p.id + p.kind).toNat
  rw [List.length_append]
  by_cases hk : p.kind = 0
  · have := hb.2.2.2.2.2.2.2.1 hk
    rw [if_pos hk]; omega
  · rw [if_neg hk, List.length_append, bytes_len]; omega
theorem partsN_enc : ∀ (l : List Part), (∀ p ∈ l, goodP p = true) → (l.map partN).sum ≤ (l.flatMap encP).length
  | [], _ => by simp
  | p :: l, h => by
    rw [List.map_cons, List.sum_cons, List.flatMap_cons, List.length_append]
    have := partN_enc (h p (by simp))
    have := partsN_enc l (fun q hq => h q (by simp [hq]))
    omega
theorem decF_parts {s : List UInt8} (h : (decF s).2 = 0) : ((decF s).1.map partN).sum ≤ s.length := by
  have h1 := wire_only (s := s) (l := (decF s).1) (by rw [← h])
  obtain ⟨e1, e2, _⟩ := encL_ok _ _ _ h1
  have := partsN_enc _ e2
  rw [List.nil_append] at e1
  have := congrArg List.length e1
  omega
/-- What is decoded is of the type, and not too large. -/
theorem dec_typed {b : BookD} (hg : goodF b = 0) : ∀ (k : Nat) (t : TypeD) (s : List UInt8), t ∈ b → findT b t.name = some t → t.enum = false → (decV b k t s).2 = 0 →
    typedF b t (decV b k t s).1 = 0 ∧ countV (decV b k t s).1 ≤ 12 + 12 * s.length ∧ depthV (decV b k t s).1 ≤ k + 5
  | 0, t, s, _, _, _, h => by simp [decV] at h
  | k + 1, t, s, ht, hfi, hen, h => by
    have hm := good_msg hg ht hen
    rw [decV] at h ⊢
    by_cases h1 : (decF s).2 = 0
    · rw [if_neg (by simpa using h1)] at h ⊢
      by_cases h2 : (decGo b (decV b k) t none (decF s).1 [] []).2 = 0
      · rw [if_neg (by simpa using h2)]
        obtain ⟨⟨last, hh⟩, hd, hc⟩ := decGo_held (D := k + 5) (by omega) (fun f hf => msg_field hm hf) (fun f s' hf h5 hr => by
          obtain ⟨t2, a1, a2, a3, a4, a5, a6⟩ := field_msg hg hf h5
          rw [a2] at hr ⊢
          exact dec_typed hg k t2 s' a3 (by rw [a4]; exact a1) a5 hr) (decF s).1 none [] [] (held_nil b t) (by simp) h2
        refine ⟨filled_typed hg hm hh, ?_, ?_⟩
        · have := filled_count hg ht hfi hen hh
          have := decF_parts h1
          simp only [countL] at hc
          show countV (filledF b 4 t _ _) ≤ _
          omega
        · have := filled_depth (b := b) (t := t) (ids := (decGo b (decV b k) t none (decF s).1 [] []).1.1) (D := k + 5) (by omega) hd
          show depthV (filledF b 4 t _ _) ≤ _
          omega
      · rw [if_pos h2] at h; exact absurd h h2
    · rw [if_pos h1] at h; exact absurd h h1
end Go.Proofs.YtkdmcplomfcoeaaDoor
