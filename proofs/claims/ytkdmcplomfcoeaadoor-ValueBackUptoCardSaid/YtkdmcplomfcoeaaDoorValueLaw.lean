/- The laws of values: what ValueBack, ValueOnce and ValueLeast come to. -/
import Derived.Test.YtkdmcplomfcoeaaDoorValueLawE
namespace Go.Proofs.YtkdmcplomfcoeaaDoor

theorem noneB_type {b : BookD} {name : ByteArray} (h : noneB b name = false) : ∃ t, findT b name = some t ∧ typeOf b name = t ∧ t ∈ b ∧ t.name = name ∧ t.enum = false := by
  unfold noneB at h
  cases hf : findT b name with
  | none => rw [hf] at h; cases h
  | some t =>
    rw [hf] at h
    exact ⟨t, rfl, by rw [typeOf, hf]; rfl, (findT_some hf).1, (findT_some hf).2, h⟩
theorem TypedF_ok {b : BookD} {name : ByteArray} {v : ValueD} (h : TypedF b name v = 0) : goodF b = 0 ∧ noneB b name = false ∧ smallF v = true ∧ typedF b (typeOf b name) v = 0 := by
  unfold TypedF at h
  split at h
  · simp at h
  · split at h
    · simp at h
    · split at h
      · simp at h
      · rename_i h1 h2 h3
        exact ⟨by simpa using h1, by simpa using h2, by simpa using h3, h⟩
theorem small_iff {v : ValueD} : smallF v = true ↔ depthV v ≤ 24 ∧ countV v ≤ 400 := by unfold smallF; simp
/-- What is of a type is encoded, and what is encoded is decoded as it was. -/
theorem value_back {b : BookD} {name : ByteArray} {v : ValueD} (h : TypedF b name v = 0) : (encV v).2 = 0 ∧ (encV v).1.length ≤ 20000 ∧ DecodeF b name (encV v).1 = (v, 0) := by
  obtain ⟨hg, hn, hs, ht⟩ := TypedF_ok h
  obtain ⟨t, _, e2, hm, _, he⟩ := noneB_type hn
  obtain ⟨hd, hc⟩ := small_iff.1 hs
  have hmp := good_msg hg hm he
  rw [e2] at ht
  obtain ⟨q1, q2⟩ := enc_ok hg 24 v t hd hc hmp ht
  have q3 := dec_enc hg 24 v t hd hmp ht q1
  refine ⟨q1, by omega, ?_⟩
  unfold DecodeF
  rw [if_neg (by simpa using hg), if_neg (by rw [hn]; decide), e2, q3]
  simp [hs]
theorem EncodeF_ok {b : BookD} {name : ByteArray} {v : ValueD} : (EncodeF b name v).2 = TypedF b name v ∧ ((EncodeF b name v).2 ≠ 0 → (EncodeF b name v).1 = []) ∧ ((EncodeF b name v).2 = 0 → EncodeF b name v = ((encV v).1, 0)) := by
  unfold EncodeF
  by_cases h : TypedF b name v = 0
  · obtain ⟨q, _⟩ := value_back h
    rw [if_neg (by simpa using h)]
    refine ⟨by rw [q, h], fun hn => absurd q hn, fun _ => by rw [← q]⟩
  · rw [if_pos h]
    exact ⟨rfl, fun _ => rfl, fun h0 => absurd h0 h⟩
/-- What is decoded is of the type. -/
theorem decode_typed {b : BookD} {name : ByteArray} {s : List UInt8} (h : (DecodeF b name s).2 = 0) : TypedF b name (DecodeF b name s).1 = 0 := by
  unfold DecodeF at h ⊢
  split at h
  · simp at h
  · rename_i h1
    split at h
    · simp at h
    · rename_i h2
      split at h
      · rename_i h3; exact absurd h h3
      · rename_i h3
        split at h
        · simp at h
        · rename_i h4
          rw [if_neg h1, if_neg h2, if_neg h3, if_neg h4]
          have hg : goodF b = 0 := by simpa using h1
          obtain ⟨t, e1, e2, hm, e3, he⟩ := noneB_type (b := b) (name := name) (by simpa using h2)
          unfold TypedF
          rw [if_neg h1, if_neg h2, if_neg h4]
          rw [e2] at h3 ⊢
          exact (dec_typed hg 24 t s hm (by rw [e3]; exact e1) he (by simpa using h3)).1
/-- How large what is decoded is, ahead of the look at it. -/
theorem decode_size {b : BookD} (hg : goodF b = 0) {name : ByteArray} (hn : noneB b name = false) (s : List UInt8) : countV (decV b 24 (typeOf b name) s).1 ≤ 240012 ∧ depthV (decV b 24 (typeOf b name) s).1 ≤ 29 := by
  obtain ⟨t, e1, e2, hm, e3, he⟩ := noneB_type hn
  rw [e2]
  by_cases h : (decV b 24 t s).2 = 0
  · obtain ⟨_, a, c⟩ := dec_typed hg 24 t s hm (by rw [e3]; exact e1) he h
    have : s.length ≤ 20000 := by
      rw [decV] at h
      by_cases h1 : (decF s).2 = 0
      · unfold decF at h1
        split at h1
        · simp at h1
        · omega
      · rw [if_pos h1] at h; exact absurd h h1
    omega
  · have : (decV b 24 t s).1 = .zero := by
      rw [decV] at h ⊢
      split
      · rfl
      · split
        · rfl
        · rename_i h1 h2
          rw [if_neg h1, if_neg h2] at h; exact absurd rfl h
    rw [this]
    simp [ValueD.zero, countV, countL, depthV, depthL]
/-- The least of a type is of it, is what nothing is decoded as, and is as large as told. -/
theorem value_least {b : BookD} {name : ByteArray} (h : (LeastF b name).2 = 0) :
    TypedF b name (LeastF b name).1 = 0 ∧ DecodeF b name [] = ((LeastF b name).1, 0) ∧ countV (LeastF b name).1 = leastF b 4 name ∧ countV (LeastF b name).1 ≤ 12 ∧ depthV (LeastF b name).1 ≤ 6 := by
  unfold LeastF at h ⊢
  split at h
  · simp at h
  · rename_i h1
    split at h
    · simp at h
    · rename_i h2
      rw [if_neg h1, if_neg h2]
      have hg : goodF b = 0 := by simpa using h1
      obtain ⟨t, e1, e2, hm, e3, he⟩ := noneB_type (b := b) (name := name) (by simpa using h2)
      have hmp := good_msg hg hm he
      have hc := good_leastN hg hm (by rw [e3]; exact e1) he
      have hl := good_least hg hm he
      rw [e3] at hc hl
      have hd : depthV (leastTF b 4 t) ≤ 6 := by
        rw [leastTF, msgV, depthV]
        have := depthL_le (n := 5) (l := (t.fields.filter fun g => decide (g.rule = 1)).map (leastOfF b 4)) (fun x hx => by
          obtain ⟨g, _, rfl⟩ := List.mem_map.1 hx
          exact least_depth 4 g)
        omega
      have hs : smallF (leastTF b 4 t) = true := small_iff.2 ⟨by omega, by omega⟩
      have ht := good_leastT hg hmp
      simp only [e2]
      have hdec : decV b 24 t [] = (leastTF b 4 t, 0) := by
        rw [decV]
        have h0 : decF [] = ([], 0) := rfl
        rw [h0]
        simp only [decGo, ne_eq, not_true, if_false]
        unfold filledF leastTF
        have : t.fields.flatMap (filledGo b 4 [] []) = (t.fields.filter fun g => decide (g.rule = 1)).map fun f => (f.id, leastOfF b 4 f) := by
          generalize t.fields = F
          induction F with
          | nil => rfl
          | cons f F ih =>
            rw [List.flatMap_cons, ih]
            by_cases hr : f.rule = 1
            · simp [filledGo, hasI, hr]
            · simp [filledGo, hasI, hr]
        rw [this, List.map_map, List.map_map]
        rfl
      refine ⟨?_, ?_, hc, by omega, hd⟩
      · unfold TypedF
        rw [if_neg h1, if_neg h2, if_neg (by rw [hs]; decide), e2]
        exact ht
      · unfold DecodeF
        rw [if_neg h1, if_neg h2, e2, hdec]
        simp [hs]
/-- What is refused is nothing. -/
theorem DecodeF_none {b : BookD} {name : ByteArray} {s : List UInt8} (h : (DecodeF b name s).2 ≠ 0) : (DecodeF b name s).1 = .zero := by
  unfold DecodeF at h ⊢
  split
  · rfl
  · split
    · rfl
    · split
      · rfl
      · split
        · rfl
        · rename_i h1 h2 h3 h4
          rw [if_neg h1, if_neg h2, if_neg h3, if_neg h4] at h; exact absurd rfl h
end Go.Proofs.YtkdmcplomfcoeaaDoor
