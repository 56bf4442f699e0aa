/- Laws of values, plainly: what is of a type and small is encoded; the least; what is decoded is of the type. -/
import Derived.Test.YtkdmcplomfcoeaaDoorValueLawB
namespace Go.Proofs.YtkdmcplomfcoeaaDoor

theorem countL_mem : ∀ {l : List ValueD} {x : ValueD}, x ∈ l → countV x ≤ countL l
  | [], _, h => by cases h
  | y :: l, x, h => by
    rw [countL]
    rcases List.mem_cons.1 h with rfl | h
    · omega
    · have := countL_mem h; omega
theorem depthL_mem : ∀ {l : List ValueD} {x : ValueD}, x ∈ l → depthV x ≤ depthL l
  | [], _, h => by cases h
  | y :: l, x, h => by
    rw [depthL]
    rcases List.mem_cons.1 h with rfl | h
    · omega
    · have := depthL_mem h; omega
theorem depthL_le {n : Nat} : ∀ {l : List ValueD}, (∀ x ∈ l, depthV x ≤ n) → depthL l ≤ n
  | [], _ => by simp [depthL]
  | y :: l, h => by
    rw [depthL]
    have := h y (by simp)
    have := depthL_le (l := l) (fun x hx => h x (by simp [hx]))
    omega
theorem kindOf_5 : kindOf 5 = 2 := rfl
theorem countV_pos (v : ValueD) : 1 ≤ countV v := by
  obtain ⟨_, _, _, _, l⟩ := v
  rw [countV]; omega

theorem sev_len1 {n : Nat} (h : n < 128) : (sev n).length = 1 := by rw [sev_lt h]; rfl
theorem sev_len3 {n : Nat} (h : n < 2097152) : (sev n).length ≤ 3 := sev_len 2 n (Nat.lt_of_lt_of_le h (by decide))

/-- A value that fits is a part, and its bytes are not too many. -/
theorem part_good {b : BookD} (hg : goodF b = 0) {f : FieldD} (hf : fieldP b f) {x : ValueD} (h : fitsF b f x = 0) {inner : List UInt8} (hi : x.kind = 2 → inner.length ≤ 46 * (countV x - 1)) (hc : countV x ≤ 400) :
    goodP (partOf f.id x inner) = true ∧ (encP (partOf f.id x inner)).length ≤ 46 * countV x := by
  obtain ⟨h1, h2⟩ := fits_kind h
  obtain ⟨o1, o2, o3⟩ := odd_iff.1 h2
  have hpos := countV_pos x
  have hf0 := hf
  obtain ⟨_, i1, i2, k1, k2, r1, r2, _⟩ := hf
  have hkey : (4 * f.id + x.kind).toNat < 128 ∧ 0 ≤ x.kind ∧ x.kind ≤ 2 := by
    rw [h1]; unfold kindOf; split <;> (try split) <;> omega
  obtain ⟨hkey, hk0, hk2⟩ := hkey
  by_cases h5 : f.kind = 5
  · have hx : x.kind = 2 := by rw [h1, h5]; rfl
    have hn := o2 (by omega)
    have hi := hi hx
    have hsz : (partOf f.id x inner).s.size = inner.length := by simp only [partOf, if_pos hx]; rfl
    have hsb : bytes (partOf f.id x inner).s = inner := by simp only [partOf, if_pos hx]
    refine ⟨?_, ?_⟩
    · have hkk : (partOf f.id x inner).kind = x.kind := rfl
      have hid : (partOf f.id x inner).id = f.id := rfl
      have hnn : (partOf f.id x inner).n = x.n := rfl
      simp only [goodP, hsz, hkk, hid, hnn, Bool.and_eq_true, Bool.or_eq_true, decide_eq_true_eq]
      omega
    · have hkk : (partOf f.id x inner).kind = x.kind := rfl
      have hid : (partOf f.id x inner).id = f.id := rfl
      unfold encP
      rw [hsz, hsb, hkk, hid, if_neg (by omega)]
      have := sev_len1 hkey
      have := sev_len3 (n := inner.length) (by omega)
      simp only [List.length_append]
      omega
  · have hx2 : x.kind ≠ 2 := by rw [h1]; unfold kindOf; split <;> (try split) <;> omega
    have hs : (partOf f.id x inner).s = x.s := by simp only [partOf, if_neg hx2]
    have hkk : (partOf f.id x inner).kind = x.kind := rfl
    have hid : (partOf f.id x inner).id = f.id := rfl
    have hn : (partOf f.id x inner).n = x.n := rfl
    by_cases h3 : f.kind = 3
    · have hx : x.kind = 1 := by rw [h1, h3]; rfl
      have hxn := o2 (by omega)
      have hp : x.s.size ≤ 40 := by
        unfold fitsF at h
        rw [if_neg (by simpa using h1), if_neg (by rw [h2]; decide), if_neg (by omega), if_neg (by omega), if_pos h3] at h
        split at h
        · rename_i hp
          simp [plainF] at hp
          exact hp.2
        · simp at h
      refine ⟨?_, ?_⟩
      · simp only [goodP, hs, hkk, hid, hn, Bool.and_eq_true, Bool.or_eq_true, decide_eq_true_eq]
        omega
      · unfold encP
        rw [hs, hkk, hid, hn, if_neg (by omega)]
        have := sev_len1 hkey
        have := sev_len1 (n := x.s.size) (by omega)
        simp only [List.length_append, bytes_len]
        omega
    · have hx : x.kind = 0 := by rw [h1]; unfold kindOf; rw [if_neg h3, if_neg h5]
      have hxs := o3 (by omega)
      have hr : -1099511627776 ≤ x.n ∧ x.n ≤ 1099511627776 := by
        unfold fitsF at h
        rw [if_neg (by simpa using h1), if_neg (by rw [h2]; decide)] at h
        by_cases e1 : f.kind = 1
        · rw [if_pos e1] at h
          split at h
          · omega
          · simp at h
        · rw [if_neg e1] at h
          by_cases e2 : f.kind = 2
          · rw [if_pos e2] at h
            split at h
            · simp at h
            · omega
          · have e4 : f.kind = 4 := by omega
            rw [if_neg e2, if_neg h3, if_pos e4] at h
            split at h
            · rename_i hm
              obtain ⟨t, _, ht, _, he⟩ := field_enum hg hf0 e4
              have ht' : (findT b f.type).getD .zero = t := ht
              rw [ht'] at hm
              obtain ⟨y, hy, hyn⟩ := List.any_eq_true.1 hm
              obtain ⟨j, hj, rfl⟩ := List.getElem_of_mem hy
              have := he.1 j hj
              have hyn : t.items[j].n = x.n := by simpa using hyn
              omega
            · simp at h
      refine ⟨?_, ?_⟩
      · simp only [goodP, hs, hkk, hid, hn, Bool.and_eq_true, Bool.or_eq_true, decide_eq_true_eq]
        omega
      · unfold encP
        rw [hkk, hid, hn, if_pos hx]
        have := sev_len1 hkey
        have := sev_len6 (n := zig x.n) (by unfold zig; split <;> omega)
        simp only [List.length_append]
        omega

theorem partsL_good {b : BookD} (hg : goodF b = 0) {t : TypeD} (hm : MessageP b t) : ∀ (l : List ValueD) (ids : List Int), ids.length = l.length → (∀ id ∈ ids, (fieldOf t id).isSome = true) → (∀ p ∈ ids.zip l, FitP b t p.1 p.2) →
    (∀ x ∈ l, countV x ≤ 400) → (∀ x ∈ l, x.kind = 2 → (encV x).1.length ≤ 46 * (countV x - 1)) → (∀ p ∈ partsL ids l, goodP p = true) ∧ ((partsL ids l).flatMap encP).length ≤ 46 * countL l
  | [], ids, h, _, _, _, _ => by
    have : ids = [] := List.eq_nil_of_length_eq_zero (by simpa using h)
    subst this; simp [partsL]
  | x :: l, [], h, _, _, _, _ => by simp at h
  | x :: l, id :: ids, h, hk, hf, hc, he => by
    obtain ⟨i1, i2⟩ := partsL_good hg hm l ids (by simpa using h) (fun i hi => hk i (by simp [hi])) (fun p hp => hf p (by simp [hp])) (fun y hy => hc y (by simp [hy])) (fun y hy => he y (by simp [hy]))
    obtain ⟨f, hff⟩ := Option.isSome_iff_exists.1 (hk id (by simp))
    have hfit := hf (id, x) (by simp)
    unfold FitP at hfit
    simp only [hff, Option.getD_some] at hfit
    obtain ⟨hfm, hfi⟩ := fieldOf_some hff
    subst hfi
    obtain ⟨p1, p2⟩ := part_good hg (msg_field hm hfm) hfit.1 (inner := (encV x).1) (he x (by simp)) (hc x (by simp))
    rw [partsL, countL]
    refine ⟨?_, ?_⟩
    · intro p hp
      rcases List.mem_cons.1 hp with rfl | hp
      · exact p1
      · exact i1 p hp
    · rw [List.flatMap_cons, List.length_append]
      omega
/-- What is of a type and small is encoded, in not too many bytes. -/
theorem enc_ok {b : BookD} (hg : goodF b = 0) : ∀ (k : Nat) (v : ValueD) (t : TypeD), depthV v ≤ k → countV v ≤ 400 → MessageP b t → typedF b t v = 0 → (encV v).2 = 0 ∧ (encV v).1.length ≤ 46 * (countV v - 1)
  | 0, .mk _ _ _ _ _, _, hd, _, _, _ => by rw [depthV] at hd; omega
  | k + 1, .mk kind n s ids l, t, hd, hc, hm, ht => by
    obtain ⟨a1, a2, a3, a4, a5, a6, a7, a8⟩ := (typedF_iff b t _).1 ht
    simp only [ValueD.kind, ValueD.ids, ValueD.l, ValueD.n, ValueD.s] at a1 a2 a3 a4 a5 a6 a7 a8
    rw [depthV] at hd
    rw [countV] at hc
    have hin : ∀ x ∈ l, x.kind = 2 → (encV x).2 = 0 ∧ (encV x).1.length ≤ 46 * (countV x - 1) := by
      intro x hx hx2
      obtain ⟨i, hi, rfl⟩ := List.getElem_of_mem hx
      have hz : (ids[i]'(by omega), l[i]) ∈ ids.zip l := List.mem_iff_getElem.2 ⟨i, by simp; omega, by simp⟩
      have hfit := a7 _ hz
      obtain ⟨f, hff⟩ := Option.isSome_iff_exists.1 (a5 (ids[i]'(by omega)) (List.getElem_mem _))
      unfold FitP at hfit
      simp only [hff, Option.getD_some] at hfit
      have hf := msg_field hm (fieldOf_some hff).1
      have h5 : f.kind = 5 := by
        have := (fits_kind hfit.1).1
        rw [hx2] at this
        unfold kindOf at this
        split at this
        · simp at this
        · split at this
          · assumption
          · simp at this
      obtain ⟨t2, _, h2, _, _, _, hm2⟩ := field_msg hg hf h5
      have := countL_mem hx
      have := depthL_mem hx
      exact enc_ok hg k l[i] t2 (by omega) (by omega) hm2 (h2 ▸ hfit.2 h5)
    rw [encV_mk a2 (fun x hx h2 => (hin x hx h2).1)]
    obtain ⟨g1, g2⟩ := partsL_good hg hm l ids a2 a5 a7 (fun x hx => by have := countL_mem hx; omega) (fun x hx h2 => (hin x hx h2).2)
    rw [encL_flat _ _ g1 (by simp only [List.nil_append]; omega), countV]
    simp only [List.nil_append, true_and]
    omega
end Go.Proofs.YtkdmcplomfcoeaaDoor
