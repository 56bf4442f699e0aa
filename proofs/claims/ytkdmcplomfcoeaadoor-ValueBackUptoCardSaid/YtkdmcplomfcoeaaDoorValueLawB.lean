/- Laws of values, plainly: what is encoded is decoded as it was. -/
import Derived.Test.YtkdmcplomfcoeaaDoorValueLawA
namespace Go.Proofs.YtkdmcplomfcoeaaDoor

theorem ba_ext {a b : ByteArray} (h : bytes a = bytes b) : a = b := by
  rw [ba_of (s := a) rfl, ba_of (s := b) rfl, h]
theorem ba_size0 {a : ByteArray} (h : a.size = 0) : a = ⟨#[]⟩ := by
  apply ba_ext
  rw [bytes_of]
  exact List.eq_nil_of_length_eq_zero h

/-- What fits is of the field's kind. -/
theorem fits_kind {b : BookD} {f : FieldD} {x : ValueD} (h : fitsF b f x = 0) : x.kind = kindOf f.kind ∧ oddF x = false := by
  unfold fitsF at h
  split at h
  · simp at h
  · split at h
    · simp at h
    · rename_i h1 h2
      exact ⟨by simpa using h1, by simpa using h2⟩
theorem odd_iff {v : ValueD} : oddF v = false ↔ (v.kind ≠ 2 → v.ids = [] ∧ v.l = []) ∧ (v.kind ≠ 0 → v.n = 0) ∧ (v.kind ≠ 1 → v.s.size = 0) := by
  unfold oddF
  simp only [decide_eq_false_iff_not, not_or, not_and, Decidable.not_not, Nat.not_lt, Nat.le_zero_eq, Nat.add_eq_zero_iff, List.length_eq_zero_iff]
/-- What a part of a value that fits is read as, not looked into. -/
theorem bare_part {b : BookD} {f : FieldD} {x : ValueD} (h : fitsF b f x = 0) (id : Int) (inner : List UInt8) :
    fitsF b f (bareV (partOf id x inner)) = 0 ∧ (f.kind ≠ 5 → bareV (partOf id x inner) = x) := by
  obtain ⟨h1, h2⟩ := fits_kind h
  obtain ⟨o1, o2, o3⟩ := odd_iff.1 h2
  obtain ⟨kind, n, s, ids, l⟩ := x
  simp only [ValueD.kind, ValueD.ids, ValueD.l, ValueD.n, ValueD.s] at h1 o1 o2 o3
  have key : f.kind ≠ 5 → bareV (partOf id (.mk kind n s ids l) inner) = .mk kind n s ids l := by
    intro h5
    have hk2 : kind ≠ 2 := by rw [h1]; unfold kindOf; split <;> (try split) <;> simp_all
    obtain ⟨rfl, rfl⟩ := o1 hk2
    by_cases hk1 : kind = 1
    · subst hk1; rfl
    · have hs := ba_size0 (o3 hk1)
      simp [bareV, partOf, ValueD.kind, ValueD.n, ValueD.s, hk1, hs]
  refine ⟨?_, key⟩
  by_cases h5 : f.kind = 5
  · have hk2 : kind = 2 := by rw [h1]; unfold kindOf; simp [h5]
    subst hk2
    have hn := o2 (by decide)
    unfold fitsF
    simp [bareV, partOf, ValueD.kind, ← h1, oddF, ValueD.ids, ValueD.l, ValueD.n, ValueD.s, hn, h5]
    rw [if_pos (by decide)]
    exact if_pos rfl
  · rw [key h5]; exact h

/-- The parts of a value, where its inner ones are encoded. -/
def partsL : List Int → List ValueD → List Part
  | id :: ids, x :: l => partOf id x (encV x).1 :: partsL ids l
  | _, _ => []
theorem partsGo_eq : ∀ (l : List ValueD) (ids : List Int) (acc : List Part), ids.length = l.length → (∀ x ∈ l, x.kind = 2 → (encV x).2 = 0) → partsGo ids l acc = (acc ++ partsL ids l, 0)
  | [], ids, acc, h, _ => by
    have : ids = [] := List.eq_nil_of_length_eq_zero (by simpa using h)
    subst this; simp [partsGo, partsL]
  | x :: l, [], acc, h, _ => by simp at h
  | x :: l, id :: ids, acc, h, hx => by
    rw [partsGo, if_neg (by intro h1; exact h1.2 (hx x (by simp) h1.1)), partsGo_eq l ids _ (by simpa using h) (fun y hy => hx y (by simp [hy])), partsL]
    simp
/-- And the other way round. -/
theorem partsGo_ok : ∀ (l : List ValueD) (ids : List Int) (acc : List Part), ids.length = l.length → (partsGo ids l acc).2 = 0 → ∀ x ∈ l, x.kind = 2 → (encV x).2 = 0
  | [], _, _, _, _ => by simp
  | x :: l, [], acc, h, _ => by simp at h
  | x :: l, id :: ids, acc, h, hx => by
    rw [partsGo] at hx
    split at hx
    · rename_i h1; exact absurd hx h1.2
    · rename_i h1
      have ih := partsGo_ok l ids _ (by simpa using h) hx
      intro y hy
      rcases List.mem_cons.1 hy with rfl | hy
      · intro h2
        by_cases h3 : (encV y).2 = 0
        · exact h3
        · exact absurd ⟨h2, h3⟩ h1
      · exact ih y hy
theorem encV_mk {kind n : Int} {s : ByteArray} {ids : List Int} {l : List ValueD} (hl : ids.length = l.length) (hx : ∀ x ∈ l, x.kind = 2 → (encV x).2 = 0) : encV (.mk kind n s ids l) = encL (partsL ids l) [] := by
  rw [encV, partsGo_eq l ids [] hl hx]
  simp

/-- Parts of values that fit are read as the values. -/
theorem decGo_back {b : BookD} {t : TypeD} {rec : TypeD → List UInt8 → ValueD × Int} : ∀ (l : List ValueD) (ids : List Int) (last : Option Int) (ai : List Int) (al : List ValueD), ids.length = l.length →
    (∀ id ∈ ids, (fieldOf t id).isSome = true ∧ ∀ k, last = some k → Follow t k id) → ids.Pairwise (Follow t) → (∀ p ∈ ids.zip l, FitP b t p.1 p.2) →
    (∀ i ∈ ai, ∃ k, last = some k ∧ i ≤ k) →
    (∀ x ∈ l, ∀ t', x.kind = 2 → typedF b t' x = 0 → (∃ f, fieldP b f ∧ f.kind = 5 ∧ typeOf b f.type = t') → rec t' (encV x).1 = (x, 0)) → (∀ f ∈ t.fields, fieldP b f) →
    decGo b rec t last (partsL ids l) ai al = ((ai ++ ids, al ++ l), 0)
  | [], ids, last, ai, al, h, _, _, _, _, _, _ => by
    have : ids = [] := List.eq_nil_of_length_eq_zero (by simpa using h)
    subst this; simp [partsL, decGo]
  | x :: l, [], last, ai, al, h, _, _, _, _, _, _ => by simp at h
  | x :: l, id :: ids, last, ai, al, h, hk, hp, hf, ha, hr, hgf => by
    have hid := hk id (by simp)
    obtain ⟨f, hff⟩ := Option.isSome_iff_exists.1 hid.1
    have hfit := hf (id, x) (by simp)
    unfold FitP at hfit
    simp only [hff, Option.getD_some] at hfit
    have hp' := List.pairwise_cons.1 hp
    have ih := decGo_back l ids (some id) (ai ++ [id]) (al ++ [x]) (by simpa using h) (fun i hi => ⟨(hk i (by simp [hi])).1, fun k hk' => by cases hk'; exact hp'.1 i hi⟩) hp'.2 (fun p hp => hf p (by simp [hp]))
      (fun i hi => by
        rcases List.mem_append.1 hi with hi | hi
        · obtain ⟨k, hk1, hk2⟩ := ha i hi
          have := (hid.2 k hk1).1
          exact ⟨id, rfl, by omega⟩
        · simp at hi; exact ⟨id, rfl, by omega⟩) (fun y hy => hr y (by simp [hy])) hgf
    obtain ⟨q1, q2⟩ := bare_part hfit.1 id (encV x).1
    have hfall : fallsF last (partOf id x (encV x).1).id = false := by
      unfold fallsF
      cases hl : last with
      | none => rfl
      | some k => exact decide_eq_false (Int.not_lt.2 (hid.2 k hl).1)
    have htwice : ¬ (f.rule ≠ 3 ∧ hasI ai (partOf id x (encV x).1).id = true) := by
      rintro ⟨h1, h2⟩
      rw [hasI_iff] at h2
      have h2 : id ∈ ai := h2
      obtain ⟨k, hk1, hk2⟩ := ha id h2
      have := hid.2 k hk1
      have e : k = id := by have := this.1; omega
      have := this.2 e
      rw [e, hff] at this
      exact h1 this
    rw [partsL, decGo, if_neg (by rw [hfall]; decide)]
    have hpid : (partOf id x (encV x).1).id = id := rfl
    rw [hpid] at htwice ⊢
    rw [hff]
    simp only
    rw [if_neg (by simpa using q1), if_neg htwice]
    by_cases h5 : f.kind = 5
    · rw [if_pos h5]
      have hx2 : x.kind = 2 := by rw [(fits_kind hfit.1).1]; unfold kindOf; simp [h5]
      have hs : bytes (partOf id x (encV x).1).s = (encV x).1 := by simp only [partOf, if_pos hx2]
      have := hr x (by simp) _ hx2 (hfit.2 h5) ⟨f, hgf f (fieldOf_some hff).1, h5, rfl⟩
      rw [hs, this]
      simp only [ne_eq, not_true, if_false]
      rw [ih]
      simp
    · rw [if_neg h5, q2 h5, ih]
      simp

/-- What is encoded is decoded as it was. -/
theorem dec_enc {b : BookD} (hg : goodF b = 0) : ∀ (k : Nat) (v : ValueD) (t : TypeD), depthV v ≤ k → MessageP b t → typedF b t v = 0 → (encV v).2 = 0 → decV b k t (encV v).1 = (v, 0)
  | 0, .mk _ _ _ _ _, _, hd, _, _, _ => by rw [depthV] at hd; omega
  | k + 1, .mk kind n s ids l, t, hd, hm, ht, he => by
    obtain ⟨a1, a2, a3, a4, a5, a6, a7, a8⟩ := (typedF_iff b t _).1 ht
    simp only [ValueD.kind, ValueD.ids, ValueD.l, ValueD.n, ValueD.s] at a1 a2 a3 a4 a5 a6 a7 a8
    subst a1 a3
    have hin : ∀ x ∈ l, x.kind = 2 → (encV x).2 = 0 := by
      rw [encV] at he
      split at he
      · rename_i h1; exact absurd he h1
      · rename_i h1
        exact partsGo_ok l ids [] a2 (by simpa using h1)
    have hdl : ∀ x ∈ l, depthV x ≤ k := by
      rw [depthV] at hd
      have : ∀ (l : List ValueD) (x : ValueD), x ∈ l → depthV x ≤ depthL l := by
        intro l
        induction l with
        | nil => intro x hx; cases hx
        | cons y l ih =>
          intro x hx
          rw [depthL]
          rcases List.mem_cons.1 hx with rfl | hx
          · omega
          · have := ih x hx; omega
      intro x hx
      have := this l x hx
      omega
    rw [encV_mk a2 hin] at he ⊢
    have hdec := wire_back (l := partsL ids l) (r := (encL (partsL ids l) []).1) (by rw [← he])
    rw [decV, hdec]
    simp only [ne_eq, not_true, if_false]
    rw [decGo_back l ids none [] [] a2 (fun i hi => ⟨a5 i hi, fun k hk => by cases hk⟩) a6 a7 (fun i hi => by cases hi) (fun x hx t' hx2 htx ⟨f, hf, hf5, hft⟩ => by
      obtain ⟨t2, _, h2, _, _, _, hm2⟩ := field_msg hg hf hf5
      rw [h2] at hft
      subst hft
      exact dec_enc hg k x _ (hdl x hx) hm2 htx (hin x hx hx2)) (fun f hf => msg_field hm hf)]
    simp only [List.nil_append, not_true, if_false]
    rw [filled_id hm 4 a2 a5 a6 a8, msgV, ba_size0 a4]
end Go.Proofs.YtkdmcplomfcoeaaDoor
