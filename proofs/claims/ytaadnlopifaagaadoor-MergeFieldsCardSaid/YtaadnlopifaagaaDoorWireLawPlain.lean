/- What is written is read back, and only that: plain laws of parts and their bytes. -/
import Derived.Test.YtaadnlopifaagaaDoorWireDecPlain
namespace Go.Proofs.YtaadnlopifaagaaDoor

theorem u8_back (c : UInt8) (h : ¬ c.toNat < 128) : UInt8.ofNat (c.toNat % 128 + 128) = c := by
  have := c.toNat_lt
  apply UInt8.toNat_inj.1
  rw [UInt8.toNat_ofNat']
  omega
theorem sev_ne (n : Nat) : sev n ≠ [] := by
  by_cases h : n < 128
  · rw [sev_lt h]; simp
  · rw [sev_ge h]; simp

theorem drop_head {s : List UInt8} {i : Nat} {c : UInt8} {r : List UInt8} (h : s.drop i = c :: r) : ∃ hi : i < s.length, s[i] = c ∧ s.drop (i + 1) = r := by
  have hi : i < s.length := by
    rcases Nat.lt_or_ge i s.length with h' | h'
    · exact h'
    · rw [List.drop_eq_nil_of_le h'] at h; cases h
  rw [List.drop_eq_getElem_cons hi] at h
  injection h with h1 h2
  exact ⟨hi, h1, h2⟩

theorem getGo_sev (s : List UInt8) : ∀ (f i n x : Nat) (rest : List UInt8), 0 < f → x < 128 ^ f → s.drop i = sev x ++ rest → getGo s f i n = (n + x * 128 ^ i, i + (sev x).length, decide (x = 0 ∧ 0 < i))
  | 0, _, _, _, _, h, _, _ => absurd h (by omega)
  | f + 1, i, n, x, rest, _, hx, hd => by
    by_cases h : x < 128
    · rw [sev_lt h] at hd ⊢
      obtain ⟨hi, hc, _⟩ := drop_head hd
      have ht : s[i].toNat = x := by rw [hc, UInt8.toNat_ofNat']; omega
      rw [getGo, dif_pos hi, if_pos (by rw [ht]; exact h), ht]; rfl
    · rw [sev_ge h] at hd ⊢
      obtain ⟨hi, hc, hr⟩ := drop_head hd
      have ht : s[i].toNat = x % 128 + 128 := by rw [hc, UInt8.toNat_ofNat']; omega
      have hf : 0 < f := by
        rcases Nat.eq_zero_or_pos f with h0 | h0
        · subst h0; simp at hx; omega
        · exact h0
      have hx' : x / 128 < 128 ^ f := by rw [Nat.pow_succ] at hx; omega
      rw [getGo, dif_pos hi, if_neg (by rw [ht]; omega), getGo_sev s f (i + 1) _ (x / 128) rest hf hx' hr]
      have e1 : s[i].toNat % 128 = x % 128 := by rw [ht]; omega
      have e2 : n + s[i].toNat % 128 * 128 ^ i + x / 128 * 128 ^ (i + 1) = n + x * 128 ^ i := by
        rw [e1, Nat.pow_succ]
        have : x * 128 ^ i = (x % 128 + 128 * (x / 128)) * 128 ^ i := by rw [Nat.mod_add_div]
        rw [this, Nat.add_mul, ← Nat.mul_assoc, Nat.mul_comm (x / 128 * 128 ^ i) 128, ← Nat.mul_assoc, Nat.add_assoc]
      rw [e2]
      have e3 : decide (x / 128 = 0 ∧ 0 < i + 1) = false := by simp; omega
      have e4 : decide (x = 0 ∧ 0 < i) = false := by simp; omega
      rw [e3, e4, List.length_cons]
      congr 2; omega
theorem getF_sev {s : List UInt8} {x : Nat} {rest : List UInt8} (hx : x < 4398046511104) (h : s = sev x ++ rest) : getF s = (x, (sev x).length, false) := by
  have := getGo_sev s 6 0 0 x rest (by decide) hx (by simpa using h)
  rw [getF, this]; simp

theorem getGo_only (s : List UInt8) : ∀ (f i n r m : Nat), getGo s f i n = (r, m, false) → ∃ x, r = n + x * 128 ^ i ∧ s.drop i = sev x ++ s.drop m ∧ i < m ∧ (i = 0 ∨ x ≠ 0)
  | 0, i, n, r, m, h => by simp [getGo] at h
  | f + 1, i, n, r, m, h => by
    rw [getGo] at h
    split at h
    · rename_i hi
      split at h
      · rename_i hc
        simp only [Prod.mk.injEq, decide_eq_false_iff_not] at h
        obtain ⟨rfl, rfl, hb⟩ := h
        refine ⟨s[i].toNat, rfl, ?_, by omega, by omega⟩
        rw [sev_lt hc, List.drop_eq_getElem_cons hi]
        simp
      · rename_i hc
        obtain ⟨x, hr, hd, hm, hx⟩ := getGo_only s f (i + 1) _ r m h
        have hx0 : x ≠ 0 := by omega
        refine ⟨s[i].toNat % 128 + 128 * x, ?_, ?_, by omega, by omega⟩
        · rw [hr, Nat.pow_succ, Nat.add_mul, ← Nat.mul_assoc, Nat.mul_comm (x * 128 ^ i) 128, ← Nat.mul_assoc, Nat.add_assoc]
        · have h1 : ¬ (s[i].toNat % 128 + 128 * x) < 128 := by omega
          rw [sev_ge h1, List.drop_eq_getElem_cons hi, hd]
          have e1 : (s[i].toNat % 128 + 128 * x) % 128 = s[i].toNat % 128 := by omega
          have e2 : (s[i].toNat % 128 + 128 * x) / 128 = x := by omega
          rw [e1, e2, u8_back _ hc]; rfl
    · simp at h
theorem getF_only {s : List UInt8} {r m : Nat} (h : getF s = (r, m, false)) : s = sev r ++ s.drop m ∧ 0 < m := by
  obtain ⟨x, hr, hd, hm, _⟩ := getGo_only s 6 0 0 r m h
  have : r = x := by simpa using hr
  subst this
  exact ⟨by simpa using hd, hm⟩

theorem zag_zig (n : Int) : zag (zig n) = n := by
  by_cases h : n < 0
  · rw [zig_neg h, zag_odd (by omega)]; omega
  · rw [zig_nn (by omega), zag_even (by omega)]; omega
theorem zig_zag (n : Nat) : zig (zag n) = n := by
  by_cases h : n % 2 = 0
  · rw [zag_even h, zig_nn (by omega)]; omega
  · rw [zag_odd h, zig_neg (by omega)]; omega

theorem good_bounds {p : Part} (h : goodP p = true) : 1 ≤ p.id ∧ p.id ≤ 30 ∧ 0 ≤ p.kind ∧ p.kind ≤ 2 ∧ -1099511627776 ≤ p.n ∧ p.n ≤ 1099511627776 ∧ p.s.size ≤ 20000 ∧ (p.kind = 0 → p.s.size = 0) ∧ (p.kind ≠ 0 → p.n = 0) := by
  simp only [goodP, Bool.and_eq_true, Bool.or_eq_true, decide_eq_true_eq] at h
  omega

theorem stepD_enc {p : Part} (hg : goodP p = true) (rest : List UInt8) : stepD (encP p ++ rest) = some (p, rest) := by
  obtain ⟨i1, i2, k1, k2, n1, n2, s1, h0, hn⟩ := good_bounds hg
  obtain ⟨id, kind, n, s⟩ := p
  simp only at *
  have hkl : (4 * id + kind).toNat < 4398046511104 := by omega
  by_cases hk : kind = 0
  · subst hk
    have hzl : zig n < 4398046511104 := by unfold zig; split <;> omega
    have he : encP ⟨id, 0, n, s⟩ ++ rest = sev (4 * id + 0).toNat ++ (sev (zig n) ++ rest) := by rw [encP, if_pos rfl, List.append_assoc]
    have g1 := getF_sev hkl he
    have hd : (encP ⟨id, 0, n, s⟩ ++ rest).drop (sev (4 * id + 0).toNat).length = sev (zig n) ++ rest := by rw [he, List.drop_left]
    have g2 := getF_sev hzl hd
    rw [stepD_eq g1 g2, if_neg (by simp), if_pos (by omega), hd, List.drop_left, zag_zig]
    have hs : s = ⟨#[]⟩ := ba_of (List.eq_nil_of_length_eq_zero (h0 rfl))
    have hi : (((4 * id + 0).toNat : Nat) : Int) / 4 = id := by omega
    rw [hi, ← hs, if_pos hg]
  · have hsl : s.size < 4398046511104 := by omega
    have hn0 : n = 0 := hn hk
    subst hn0
    have he : encP ⟨id, kind, 0, s⟩ ++ rest = sev (4 * id + kind).toNat ++ (sev s.size ++ (bytes s ++ rest)) := by
      rw [encP, if_neg hk]; simp [List.append_assoc]
    have g1 := getF_sev hkl he
    have hd : (encP ⟨id, kind, 0, s⟩ ++ rest).drop (sev (4 * id + kind).toNat).length = sev s.size ++ (bytes s ++ rest) := by rw [he, List.drop_left]
    have g2 := getF_sev hsl hd
    have hl : s.size = (bytes s).length := rfl
    rw [stepD_eq g1 g2, if_neg (by simp), if_neg (by omega), hd, List.drop_left, if_pos (by rw [List.length_append]; omega), hl, List.take_left, List.drop_left]
    have hi : (((4 * id + kind).toNat : Nat) : Int) / 4 = id := by omega
    have hm : (((4 * id + kind).toNat : Nat) : Int) % 4 = kind := by omega
    have hs : (⟨(bytes s).toArray⟩ : ByteArray) = s := (ba_of rfl).symm
    rw [hi, hm, hs, if_pos hg]

theorem stepD_only {s s' : List UInt8} {p : Part} (h : stepD s = some (p, s')) : goodP p = true ∧ s = encP p ++ s' := by
  obtain ⟨key, m1, b1, g1⟩ : ∃ k m b, getF s = (k, m, b) := ⟨_, _, _, rfl⟩
  obtain ⟨n, m2, b2, g2⟩ : ∃ k m b, getF (s.drop m1) = (k, m, b) := ⟨_, _, _, rfl⟩
  rw [stepD_eq g1 g2] at h
  by_cases hb : b1 = true ∨ b2 = true
  · rw [if_pos hb] at h; cases h
  rw [if_neg hb] at h
  have hb1 : b1 = false := by cases b1 <;> simp_all
  have hb2 : b2 = false := by cases b2 <;> simp_all
  subst hb1 hb2
  obtain ⟨e1, _⟩ := getF_only g1
  obtain ⟨e2, _⟩ := getF_only g2
  by_cases hk : key % 4 = 0
  · rw [if_pos hk] at h
    split at h
    · rename_i hg
      injection h with h
      injection h with hp hs
      subst hp
      refine ⟨hg, ?_⟩
      subst hs
      have ek : (4 * ((key : Int) / 4) + 0).toNat = key := by omega
      rw [encP, if_pos rfl, zig_zag, ek, List.append_assoc, ← e2]
      exact e1
    · cases h
  · rw [if_neg hk] at h
    split at h
    · rename_i hn
      split at h
      · rename_i hg
        injection h with h
        injection h with hp hs
        subst hp
        refine ⟨hg, ?_⟩
        subst hs
        have ek : (4 * ((key : Int) / 4) + (key : Int) % 4).toNat = key := by omega
        have hz : ¬ ((key : Int) % 4) = 0 := by omega
        have hsz : (⟨(((s.drop m1).drop m2).take n).toArray⟩ : ByteArray).size = n := by
          show (((s.drop m1).drop m2).take n).toArray.size = n
          simp at hn ⊢; omega
        rw [encP, if_neg hz, ek, hsz, bytes_of, List.append_assoc, List.append_assoc, List.take_append_drop, ← e2]
        exact e1
      · cases h
    · cases h

theorem encL_ok : ∀ (l : List Part) (acc r : List UInt8), encL l acc = (r, 0) → r = acc ++ l.flatMap encP ∧ (∀ p ∈ l, goodP p = true) ∧ (l ≠ [] → r.length ≤ 20000)
  | [], acc, r, h => by simp [encL] at h; simp [h]
  | p :: l, acc, r, h => by
    rw [encL] at h
    by_cases hg : goodP p = true
    · rw [if_pos hg] at h
      by_cases hl : 20000 < (acc ++ encP p).length
      · rw [if_pos hl] at h; simp at h
      · rw [if_neg hl] at h
        obtain ⟨h1, h2, h3⟩ := encL_ok l _ _ h
        refine ⟨by rw [h1]; simp, fun q hq => ?_, fun _ => ?_⟩
        · rcases List.mem_cons.1 hq with rfl | h
          · exact hg
          · exact h2 q h
        · by_cases hn : l = []
          · subst hn; rw [h1]; simp at hl ⊢; omega
          · exact h3 hn
    · rw [if_neg hg] at h; simp at h
theorem decL_flat : ∀ (l : List Part) (acc : List Part), (∀ p ∈ l, goodP p = true) → decL (l.flatMap encP).length (l.flatMap encP) acc = (acc ++ l, 0)
  | [], acc, _ => by simp [decL]
  | p :: l, acc, h => by
    have hne : (p :: l).flatMap encP ≠ [] := by
      rw [List.flatMap_cons]
      intro h
      have h1 := (List.append_eq_nil_iff.1 h).1
      unfold encP at h1
      exact sev_ne _ (List.append_eq_nil_iff.1 h1).1
    have hst := stepD_enc (h p (by simp)) (l.flatMap encP)
    rw [← List.flatMap_cons] at hst
    rw [decL_on hne hst, decL_flat l _ (fun q hq => h q (by simp [hq]))]
    simp
theorem wire_back {l : List Part} {r : List UInt8} (h : encL l [] = (r, 0)) : decF r = (l, 0) := by
  obtain ⟨h1, h2, h3⟩ := encL_ok l [] r h
  simp at h1
  have hl : ¬ 20000 < r.length := by
    by_cases hn : l = []
    · subst hn; subst h1; simp
    · have := h3 hn; omega
  rw [decF, if_neg hl, h1, decL_flat l [] h2]; rfl
theorem decL_only : ∀ (f : Nat) (s : List UInt8) (acc l : List Part), decL f s acc = (l, 0) → s.length ≤ f → ∃ l', l = acc ++ l' ∧ s = l'.flatMap encP ∧ ∀ p ∈ l', goodP p = true
  | 0, s, acc, l, h, hs => by
    have : s = [] := List.eq_nil_of_length_eq_zero (by omega)
    subst this
    simp [decL] at h
    exact ⟨[], by simp [h], by simp, by simp⟩
  | f + 1, s, acc, l, h, hs => by
    rw [decL] at h
    by_cases hn : s = []
    · rw [if_pos hn] at h
      simp at h
      exact ⟨[], by simp [h], by simp [hn], by simp⟩
    · rw [if_neg hn] at h
      cases hst : stepD s with
      | none => rw [hst] at h; simp at h
      | some r =>
        obtain ⟨p, s'⟩ := r
        rw [hst] at h
        have hl := stepD_len hst
        obtain ⟨hg, he⟩ := stepD_only hst
        obtain ⟨l', h1, h2, h3⟩ := decL_only f s' _ l h (by omega)
        refine ⟨p :: l', by simp [h1], by rw [List.flatMap_cons, ← h2]; exact he, fun q hq => ?_⟩
        rcases List.mem_cons.1 hq with rfl | h
        · exact hg
        · exact h3 q h
theorem encL_flat : ∀ (l : List Part) (acc : List UInt8), (∀ p ∈ l, goodP p = true) → (acc ++ l.flatMap encP).length ≤ 20000 → encL l acc = (acc ++ l.flatMap encP, 0)
  | [], acc, _, _ => by simp [encL]
  | p :: l, acc, h, hl => by
    have hl' : ¬ 20000 < (acc ++ encP p).length := by
      rw [List.flatMap_cons, ← List.append_assoc, List.length_append] at hl; omega
    rw [encL, if_pos (h p (by simp)), if_neg hl', encL_flat l _ (fun q hq => h q (by simp [hq])) (by rw [List.flatMap_cons, ← List.append_assoc] at hl; exact hl)]
    simp
theorem wire_only {s : List UInt8} {l : List Part} (h : decF s = (l, 0)) : encL l [] = (s, 0) := by
  unfold decF at h
  by_cases hl : 20000 < s.length
  · rw [if_pos hl] at h; simp at h
  · rw [if_neg hl] at h
    obtain ⟨l', h1, h2, h3⟩ := decL_only _ s [] l h (Nat.le_refl _)
    simp at h1
    subst h1
    rw [encL_flat l [] h3 (by rw [← h2]; simp; omega), ← h2]; rfl
theorem decF_code (s : List UInt8) : (decF s).2 ≠ 0 → (decF s).1 = [] := by
  unfold decF
  split
  · intro _; rfl
  · have : ∀ (f : Nat) (s : List UInt8) (acc : List Part), (decL f s acc).2 ≠ 0 → (decL f s acc).1 = [] := by
      intro f
      induction f with
      | zero => intro s acc h; simp [decL] at h
      | succ f ih =>
        intro s acc h
        rw [decL] at h ⊢
        by_cases hn : s = []
        · rw [if_pos hn] at h; simp at h
        · rw [if_neg hn] at h ⊢
          cases hst : stepD s with
          | none => rfl
          | some r => rw [hst] at h; exact ih _ _ h
    exact this _ _ _
theorem encL_code : ∀ (l : List Part) (acc : List UInt8), (encL l acc).2 ≠ 0 → (encL l acc).1 = []
  | [], acc, h => by simp [encL] at h
  | p :: l, acc, h => by
    rw [encL] at h ⊢
    by_cases hg : goodP p = true
    · rw [if_pos hg] at h ⊢
      split
      · rfl
      · rename_i hl
        rw [if_neg hl] at h
        exact encL_code l _ h
    · rw [if_neg hg]
end Go.Proofs.YtaadnlopifaagaaDoor
