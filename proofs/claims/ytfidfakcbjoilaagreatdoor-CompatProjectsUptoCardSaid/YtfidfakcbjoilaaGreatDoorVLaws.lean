/- Several texts of walks and laws in one file; what each proves stands at its head. -/
import Derived.Test.YtfidfakcbjoilaaGreatDoorBase
set_option linter.all false
namespace Go.Proofs.YtfidfakcbjoilaaGreatDoor
theorem ba_ext {a b : ByteArray} (h : bytes a = bytes b) : a = b := by
 rw [ba_of (s := a) rfl, ba_of (s := b) rfl, h]
theorem ba_size0 {a : ByteArray} (h : a.size = 0) : a = ⟨#[]⟩ := by
 apply ba_ext
 rw [bytes_of]
 exact List.eq_nil_of_length_eq_zero h
theorem fits_kind {b : BookD} {f : FieldD} {x : ValueD} (h : fitsF b f x = 0) : x.kind = kindOf f.kind ∧ oddF x = false := by
 unfold fitsF at h
 split at h
 ·simp at h
 ·split at h
  ·simp at h
  ·rename_i h1 h2
   exact ⟨by simpa using h1, by simpa using h2⟩
theorem odd_iff {v : ValueD} : oddF v = false ↔ (v.kind ≠ 2 → v.ids = [] ∧ v.l = []) ∧ (v.kind ≠ 0 → v.n = 0) ∧ (v.kind ≠ 1 → v.s.size = 0) := by
 unfold oddF
 simp only [decide_eq_false_iff_not, not_or, not_and, Decidable.not_not, Nat.not_lt, Nat.le_zero_eq, Nat.add_eq_zero_iff, List.length_eq_zero_iff]
theorem bare_part {b : BookD} {f : FieldD} {x : ValueD} (h : fitsF b f x = 0) (id : Int) (inner : List UInt8) :
  fitsF b f (bareV (partOf id x inner)) = 0 ∧ (f.kind ≠ 5 → bareV (partOf id x inner) = x) := by
 obtain ⟨h1, h2⟩ := fits_kind h
 obtain ⟨o1, o2, o3⟩ := odd_iff.1 h2
 obtain ⟨kind, n, s, ids, l⟩ := x
 simp only [ValueD.kind, ValueD.ids, ValueD.l, ValueD.n, ValueD.s] at h1 o1 o2 o3
 have key : f.kind ≠ 5 → bareV (partOf id (.mk kind n s ids l) inner) = .mk kind n s ids l := by
  intro h5
  have hk2 : kind ≠ 2 := by rw [h1]; unfold kindOf; split <;> (try split) <;> simp_all
  obtain ⟨rfl, rfl⟩ := o1 hk2
  by_cases hk1 : kind = 1
  ·subst hk1; rfl
  ·have hs := ba_size0 (o3 hk1)
   simp [bareV, partOf, ValueD.kind, ValueD.n, ValueD.s, hk1, hs]
 refine ⟨?_, key⟩
 by_cases h5 : f.kind = 5
 ·have hk2 : kind = 2 := by rw [h1]; unfold kindOf; simp [h5]
  subst hk2
  have hn := o2 (by decide)
  unfold fitsF
  simp [bareV, partOf, ValueD.kind, ← h1, oddF, ValueD.ids, ValueD.l, ValueD.n, ValueD.s, hn, h5]
  rw [if_pos (by decide)]
  exact if_pos rfl
 ·rw [key h5]; exact h
def partsL : List Int → List ValueD → List Part
 | id :: ids, x :: l => partOf id x (encV x).1 :: partsL ids l
 | _, _ => []
theorem partsGo_eq : ∀ (l : List ValueD) (ids : List Int) (acc : List Part), ids.length = l.length → (∀ x ∈ l, x.kind = 2 → (encV x).2 = 0) → partsGo ids l acc = (acc ++ partsL ids l, 0)
 | [], ids, acc, h, _ => by
  have : ids = [] := List.eq_nil_of_length_eq_zero (by simpa using h)
  subst this; simp [partsGo, partsL]
 | x :: l, [], acc, h, _ => by simp at h
 | x :: l, id :: ids, acc, h, hx => by
  rw [partsGo, if_neg (by intro h1; exact h1.2 (hx x (by simp) h1.1)), partsGo_eq l ids _ (by simpa using h) (fun y hy => hx y (by simp [hy])), partsL]
  simp
theorem partsGo_ok : ∀ (l : List ValueD) (ids : List Int) (acc : List Part), ids.length = l.length → (partsGo ids l acc).2 = 0 → ∀ x ∈ l, x.kind = 2 → (encV x).2 = 0
 | [], _, _, _, _ => by simp
 | x :: l, [], acc, h, _ => by simp at h
 | x :: l, id :: ids, acc, h, hx => by
  rw [partsGo] at hx
  split at hx
  ·rename_i h1; exact absurd hx h1.2
  ·rename_i h1
   have ih := partsGo_ok l ids _ (by simpa using h) hx
   intro y hy
   rcases List.mem_cons.1 hy with rfl | hy
   ·intro h2
    by_cases h3 : (encV y).2 = 0
    ·exact h3
    ·exact absurd ⟨h2, h3⟩ h1
   ·exact ih y hy
theorem encV_mk {kind n : Int} {s : ByteArray} {ids : List Int} {l : List ValueD} (hl : ids.length = l.length) (hx : ∀ x ∈ l, x.kind = 2 → (encV x).2 = 0) : encV (.mk kind n s ids l) = encL (partsL ids l) [] := by
 rw [encV, partsGo_eq l ids [] hl hx]
 simp
theorem decGo_back {b : BookD} {t : TypeD} {rec : TypeD → List UInt8 → ValueD × Int} : ∀ (l : List ValueD) (ids : List Int) (last : Option Int) (ai : List Int) (al : List ValueD), ids.length = l.length →
  (∀ id ∈ ids, (fieldOf t id).isSome = true ∧ ∀ k, last = some k → Follow t k id) → ids.Pairwise (Follow t) → (∀ p ∈ ids.zip l, FitP b t p.1 p.2) →
  (∀ i ∈ ai, ∃ k, last = some k ∧ i ≤ k) →
  (∀ x ∈ l, ∀ t', x.kind = 2 → typedF b t' x = 0 → (∃ f, fieldP b f ∧ f.kind = 5 ∧ typeOf b f.type = t') → rec t' (encV x).1 = (x, 0)) → (∀ f ∈ t.fields, fieldP b f) →
  decGo b rec t last (partsL ids l) ai al = ((ai ++ ids, al ++ l), 0)
 | [], ids, last, ai, al, h, _, _, _, _, _, _ => by
  have : ids = [] := List.eq_nil_of_length_eq_zero (by simpa using h)
  subst this; simp [partsL, decGo]
 | x :: l, [], last, ai, al, h, _, _, _, _, _, _ => by simp at h
 | x :: l, id :: ids, last, ai, al, h, hk, hp, hf, ha, hr, hgf => by
  have hid := hk id (by simp)
  obtain ⟨f, hff⟩ := Option.isSome_iff_exists.1 hid.1
  have hfit := hf (id, x) (by simp)
  unfold FitP at hfit
  simp only [hff, Option.getD_some] at hfit
  have hp' := List.pairwise_cons.1 hp
  have ih := decGo_back l ids (some id) (ai ++ [id]) (al ++ [x]) (by simpa using h) (fun i hi => ⟨(hk i (by simp [hi])).1, fun k hk' => by cases hk'; exact hp'.1 i hi⟩) hp'.2 (fun p hp => hf p (by simp [hp]))
   (fun i hi => by
    rcases List.mem_append.1 hi with hi | hi
    ·obtain ⟨k, hk1, hk2⟩ := ha i hi
     have := (hid.2 k hk1).1
     exact ⟨id, rfl, by omega⟩
    ·simp at hi; exact ⟨id, rfl, by omega⟩) (fun y hy => hr y (by simp [hy])) hgf
  obtain ⟨q1, q2⟩ := bare_part hfit.1 id (encV x).1
  have hfall : fallsF last (partOf id x (encV x).1).id = false := by
   unfold fallsF
   cases hl : last with
   | none => rfl
   | some k => exact decide_eq_false (Int.not_lt.2 (hid.2 k hl).1)
  have htwice : ¬ (f.rule ≠ 3 ∧ hasI ai (partOf id x (encV x).1).id = true) := by
   rintro ⟨h1, h2⟩
   rw [hasI_iff] at h2
   have h2 : id ∈ ai := h2
   obtain ⟨k, hk1, hk2⟩ := ha id h2
   have := hid.2 k hk1
   have e : k = id := by have := this.1; omega
   have := this.2 e
   rw [e, hff] at this
   exact h1 this
  rw [partsL, decGo, if_neg (by rw [hfall]; decide)]
  have hpid : (partOf id x (encV x).1).id = id := rfl
  rw [hpid] at htwice ⊢
  rw [hff]
  simp only
  rw [if_neg (by simpa using q1), if_neg htwice]
  by_cases h5 : f.kind = 5
  ·rw [if_pos h5]
   have hx2 : x.kind = 2 := by rw [(fits_kind hfit.1).1]; unfold kindOf; simp [h5]
   have hs : bytes (partOf id x (encV x).1).s = (encV x).1 := by simp only [partOf, if_pos hx2]
   have := hr x (by simp) _ hx2 (hfit.2 h5) ⟨f, hgf f (fieldOf_some hff).1, h5, rfl⟩
   rw [hs, this]
   simp only [ne_eq, not_true, if_false]
   rw [ih]
   simp
  ·rw [if_neg h5, q2 h5, ih]
   simp
theorem dec_enc {b : BookD} (hg : goodF b = 0) : ∀ (k : Nat) (v : ValueD) (t : TypeD), depthV v ≤ k → MessageP b t → typedF b t v = 0 → (encV v).2 = 0 → decV b k t (encV v).1 = (v, 0)
 | 0, .mk _ _ _ _ _, _, hd, _, _, _ => by rw [depthV] at hd; omega
 | k + 1, .mk kind n s ids l, t, hd, hm, ht, he => by
  obtain ⟨a1, a2, a3, a4, a5, a6, a7, a8⟩ := (typedF_iff b t _).1 ht
  simp only [ValueD.kind, ValueD.ids, ValueD.l, ValueD.n, ValueD.s] at a1 a2 a3 a4 a5 a6 a7 a8
  subst a1 a3
  have hin : ∀ x ∈ l, x.kind = 2 → (encV x).2 = 0 := by
   rw [encV] at he
   split at he
   ·rename_i h1; exact absurd he h1
   ·rename_i h1
    exact partsGo_ok l ids [] a2 (by simpa using h1)
  have hdl : ∀ x ∈ l, depthV x ≤ k := by
   rw [depthV] at hd
   have : ∀ (l : List ValueD) (x : ValueD), x ∈ l → depthV x ≤ depthL l := by
    intro l
    induction l with
    | nil => intro x hx; cases hx
    | cons y l ih =>
     intro x hx
     rw [depthL]
     rcases List.mem_cons.1 hx with rfl | hx
     ·omega
     ·have := ih x hx; omega
   intro x hx
   have := this l x hx
   omega
  rw [encV_mk a2 hin] at he ⊢
  have hdec := wire_back (l := partsL ids l) (r := (encL (partsL ids l) []).1) (by rw [← he])
  rw [decV, hdec]
  simp only [ne_eq, not_true, if_false]
  rw [decGo_back l ids none [] [] a2 (fun i hi => ⟨a5 i hi, fun k hk => by cases hk⟩) a6 a7 (fun i hi => by cases hi) (fun x hx t' hx2 htx ⟨f, hf, hf5, hft⟩ => by
   obtain ⟨t2, _, h2, _, _, _, hm2⟩ := field_msg hg hf hf5
   rw [h2] at hft
   subst hft
   exact dec_enc hg k x _ (hdl x hx) hm2 htx (hin x hx hx2)) (fun f hf => msg_field hm hf)]
  simp only [List.nil_append, not_true, if_false]
  rw [filled_id hm 4 a2 a5 a6 a8, msgV, ba_size0 a4]
end Go.Proofs.YtfidfakcbjoilaaGreatDoor
namespace Go.Proofs.YtfidfakcbjoilaaGreatDoor
theorem countL_mem : ∀ {l : List ValueD} {x : ValueD}, x ∈ l → countV x ≤ countL l
 | [], _, h => by cases h
 | y :: l, x, h => by
  rw [countL]
  rcases List.mem_cons.1 h with rfl | h
  ·omega
  ·have := countL_mem h; omega
theorem depthL_mem : ∀ {l : List ValueD} {x : ValueD}, x ∈ l → depthV x ≤ depthL l
 | [], _, h => by cases h
 | y :: l, x, h => by
  rw [depthL]
  rcases List.mem_cons.1 h with rfl | h
  ·omega
  ·have := depthL_mem h; omega
theorem depthL_le {n : Nat} : ∀ {l : List ValueD}, (∀ x ∈ l, depthV x ≤ n) → depthL l ≤ n
 | [], _ => by simp [depthL]
 | y :: l, h => by
  rw [depthL]
  have := h y (by simp)
  have := depthL_le (l := l) (fun x hx => h x (by simp [hx]))
  omega
theorem kindOf_5 : kindOf 5 = 2 := rfl
theorem countV_pos (v : ValueD) : 1 ≤ countV v := by
 obtain ⟨_, _, _, _, l⟩ := v
 rw [countV]; omega
theorem sev_len1 {n : Nat} (h : n < 128) : (sev n).length = 1 := by rw [sev_lt h]; rfl
theorem sev_len3 {n : Nat} (h : n < 2097152) : (sev n).length ≤ 3 := sev_len 2 n (Nat.lt_of_lt_of_le h (by decide))
theorem part_good {b : BookD} (hg : goodF b = 0) {f : FieldD} (hf : fieldP b f) {x : ValueD} (h : fitsF b f x = 0) {inner : List UInt8} (hi : x.kind = 2 → inner.length ≤ 46 * (countV x - 1)) (hc : countV x ≤ 400) :
  goodP (partOf f.id x inner) = true ∧ (encP (partOf f.id x inner)).length ≤ 46 * countV x := by
 obtain ⟨h1, h2⟩ := fits_kind h
 obtain ⟨o1, o2, o3⟩ := odd_iff.1 h2
 have hpos := countV_pos x
 have hf0 := hf
 obtain ⟨_, i1, i2, k1, k2, r1, r2, _⟩ := hf
 have hkey : (4 * f.id + x.kind).toNat < 128 ∧ 0 ≤ x.kind ∧ x.kind ≤ 2 := by
  rw [h1]; unfold kindOf; split <;> (try split) <;> omega
 obtain ⟨hkey, hk0, hk2⟩ := hkey
 by_cases h5 : f.kind = 5
 ·have hx : x.kind = 2 := by rw [h1, h5]; rfl
  have hn := o2 (by omega)
  have hi := hi hx
  have hsz : (partOf f.id x inner).s.size = inner.length := by simp only [partOf, if_pos hx]; rfl
  have hsb : bytes (partOf f.id x inner).s = inner := by simp only [partOf, if_pos hx]
  refine ⟨?_, ?_⟩
  ·have hkk : (partOf f.id x inner).kind = x.kind := rfl
   have hid : (partOf f.id x inner).id = f.id := rfl
   have hnn : (partOf f.id x inner).n = x.n := rfl
   simp only [goodP, hsz, hkk, hid, hnn, Bool.and_eq_true, Bool.or_eq_true, decide_eq_true_eq]
   omega
  ·have hkk : (partOf f.id x inner).kind = x.kind := rfl
   have hid : (partOf f.id x inner).id = f.id := rfl
   unfold encP
   rw [hsz, hsb, hkk, hid, if_neg (by omega)]
   have := sev_len1 hkey
   have := sev_len3 (n := inner.length) (by omega)
   simp only [List.length_append]
   omega
 ·have hx2 : x.kind ≠ 2 := by rw [h1]; unfold kindOf; split <;> (try split) <;> omega
  have hs : (partOf f.id x inner).s = x.s := by simp only [partOf, if_neg hx2]
  have hkk : (partOf f.id x inner).kind = x.kind := rfl
  have hid : (partOf f.id x inner).id = f.id := rfl
  have hn : (partOf f.id x inner).n = x.n := rfl
  by_cases h3 : f.kind = 3
  ·have hx : x.kind = 1 := by rw [h1, h3]; rfl
   have hxn := o2 (by omega)
   have hp : x.s.size ≤ 40 := by
    unfold fitsF at h
    rw [if_neg (by simpa using h1), if_neg (by rw [h2]; decide), if_neg (by omega), if_neg (by omega), if_pos h3] at h
    split at h
    ·rename_i hp
     simp [plainF] at hp
     exact hp.2
    ·simp at h
   refine ⟨?_, ?_⟩
   ·simp only [goodP, hs, hkk, hid, hn, Bool.and_eq_true, Bool.or_eq_true, decide_eq_true_eq]
    omega
   ·unfold encP
    rw [hs, hkk, hid, hn, if_neg (by omega)]
    have := sev_len1 hkey
    have := sev_len1 (n := x.s.size) (by omega)
    simp only [List.length_append, bytes_len]
    omega
  ·have hx : x.kind = 0 := by rw [h1]; unfold kindOf; rw [if_neg h3, if_neg h5]
   have hxs := o3 (by omega)
   have hr : -1099511627776 ≤ x.n ∧ x.n ≤ 1099511627776 := by
    unfold fitsF at h
    rw [if_neg (by simpa using h1), if_neg (by rw [h2]; decide)] at h
    by_cases e1 : f.kind = 1
    ·rw [if_pos e1] at h
     split at h
     ·omega
     ·simp at h
    ·rw [if_neg e1] at h
     by_cases e2 : f.kind = 2
     ·rw [if_pos e2] at h
      split at h
      ·simp at h
      ·omega
     ·have e4 : f.kind = 4 := by omega
      rw [if_neg e2, if_neg h3, if_pos e4] at h
      split at h
      ·rename_i hm
       obtain ⟨t, _, ht, _, he⟩ := field_enum hg hf0 e4
       have ht' : (findT b f.type).getD .zero = t := ht
       rw [ht'] at hm
       obtain ⟨y, hy, hyn⟩ := List.any_eq_true.1 hm
       obtain ⟨j, hj, rfl⟩ := List.getElem_of_mem hy
       have := he.1 j hj
       have hyn : t.items[j].n = x.n := by simpa using hyn
       omega
      ·simp at h
   refine ⟨?_, ?_⟩
   ·simp only [goodP, hs, hkk, hid, hn, Bool.and_eq_true, Bool.or_eq_true, decide_eq_true_eq]
    omega
   ·unfold encP
    rw [hkk, hid, hn, if_pos hx]
    have := sev_len1 hkey
    have := sev_len6 (n := zig x.n) (by unfold zig; split <;> omega)
    simp only [List.length_append]
    omega
theorem partsL_good {b : BookD} (hg : goodF b = 0) {t : TypeD} (hm : MessageP b t) : ∀ (l : List ValueD) (ids : List Int), ids.length = l.length → (∀ id ∈ ids, (fieldOf t id).isSome = true) → (∀ p ∈ ids.zip l, FitP b t p.1 p.2) →
  (∀ x ∈ l, countV x ≤ 400) → (∀ x ∈ l, x.kind = 2 → (encV x).1.length ≤ 46 * (countV x - 1)) → (∀ p ∈ partsL ids l, goodP p = true) ∧ ((partsL ids l).flatMap encP).length ≤ 46 * countL l
 | [], ids, h, _, _, _, _ => by
  have : ids = [] := List.eq_nil_of_length_eq_zero (by simpa using h)
  subst this; simp [partsL]
 | x :: l, [], h, _, _, _, _ => by simp at h
 | x :: l, id :: ids, h, hk, hf, hc, he => by
  obtain ⟨i1, i2⟩ := partsL_good hg hm l ids (by simpa using h) (fun i hi => hk i (by simp [hi])) (fun p hp => hf p (by simp [hp])) (fun y hy => hc y (by simp [hy])) (fun y hy => he y (by simp [hy]))
  obtain ⟨f, hff⟩ := Option.isSome_iff_exists.1 (hk id (by simp))
  have hfit := hf (id, x) (by simp)
  unfold FitP at hfit
  simp only [hff, Option.getD_some] at hfit
  obtain ⟨hfm, hfi⟩ := fieldOf_some hff
  subst hfi
  obtain ⟨p1, p2⟩ := part_good hg (msg_field hm hfm) hfit.1 (inner := (encV x).1) (he x (by simp)) (hc x (by simp))
  rw [partsL, countL]
  refine ⟨?_, ?_⟩
  ·intro p hp
   rcases List.mem_cons.1 hp with rfl | hp
   ·exact p1
   ·exact i1 p hp
  ·rw [List.flatMap_cons, List.length_append]
   omega
theorem enc_ok {b : BookD} (hg : goodF b = 0) : ∀ (k : Nat) (v : ValueD) (t : TypeD), depthV v ≤ k → countV v ≤ 400 → MessageP b t → typedF b t v = 0 → (encV v).2 = 0 ∧ (encV v).1.length ≤ 46 * (countV v - 1)
 | 0, .mk _ _ _ _ _, _, hd, _, _, _ => by rw [depthV] at hd; omega
 | k + 1, .mk kind n s ids l, t, hd, hc, hm, ht => by
  obtain ⟨a1, a2, a3, a4, a5, a6, a7, a8⟩ := (typedF_iff b t _).1 ht
  simp only [ValueD.kind, ValueD.ids, ValueD.l, ValueD.n, ValueD.s] at a1 a2 a3 a4 a5 a6 a7 a8
  rw [depthV] at hd
  rw [countV] at hc
  have hin : ∀ x ∈ l, x.kind = 2 → (encV x).2 = 0 ∧ (encV x).1.length ≤ 46 * (countV x - 1) := by
   intro x hx hx2
   obtain ⟨i, hi, rfl⟩ := List.getElem_of_mem hx
   have hz : (ids[i]'(by omega), l[i]) ∈ ids.zip l := List.mem_iff_getElem.2 ⟨i, by simp; omega, by simp⟩
   have hfit := a7 _ hz
   obtain ⟨f, hff⟩ := Option.isSome_iff_exists.1 (a5 (ids[i]'(by omega)) (List.getElem_mem _))
   unfold FitP at hfit
   simp only [hff, Option.getD_some] at hfit
   have hf := msg_field hm (fieldOf_some hff).1
   have h5 : f.kind = 5 := by
    have := (fits_kind hfit.1).1
    rw [hx2] at this
    unfold kindOf at this
    split at this
    ·simp at this
    ·split at this
     ·assumption
     ·simp at this
   obtain ⟨t2, _, h2, _, _, _, hm2⟩ := field_msg hg hf h5
   have := countL_mem hx
   have := depthL_mem hx
   exact enc_ok hg k l[i] t2 (by omega) (by omega) hm2 (h2 ▸ hfit.2 h5)
  rw [encV_mk a2 (fun x hx h2 => (hin x hx h2).1)]
  obtain ⟨g1, g2⟩ := partsL_good hg hm l ids a2 a5 a7 (fun x hx => by have := countL_mem hx; omega) (fun x hx h2 => (hin x hx h2).2)
  rw [encL_flat _ _ g1 (by simp only [List.nil_append]; omega), countV]
  simp only [List.nil_append, true_and]
  omega
end Go.Proofs.YtfidfakcbjoilaaGreatDoor
namespace Go.Proofs.YtfidfakcbjoilaaGreatDoor
def EndsP (b : BookD) (k : Nat) (f : FieldD) : Prop := f.kind = 5 → 1 ≤ leastF b k f.type
def onesL (t : TypeD) : List FieldD := t.fields.filter fun g => decide (g.rule = 1)
theorem onesL_mem {t : TypeD} {f : FieldD} : f ∈ onesL t ↔ f ∈ t.fields ∧ f.rule = 1 := by simp [onesL]
def leastN (b : BookD) (k : Nat) (f : FieldD) : Nat := if f.kind = 5 then leastF b k f.type else 1
theorem leastGo_ends {rec : ByteArray → Nat} : ∀ (l : List FieldD) (n : Nat), 1 ≤ leastGo rec l n →
  (∀ f ∈ l, f.rule = 1 → f.kind = 5 → 1 ≤ rec f.type) ∧ leastGo rec l n = n + ((l.filter fun g => decide (g.rule = 1)).map fun f => if f.kind = 5 then rec f.type else 1).sum
 | [], n, _ => by simp [leastGo]
 | f :: l, n, h => by
  rw [leastGo] at h ⊢
  by_cases h1 : f.rule = 1
  ·rw [if_pos h1] at h ⊢
   by_cases h5 : f.kind = 5
   ·rw [if_pos h5] at h ⊢
    by_cases h0 : rec f.type = 0
    ·rw [if_pos h0] at h; omega
    ·rw [if_neg h0] at h ⊢
     obtain ⟨a, c⟩ := leastGo_ends l _ h
     refine ⟨?_, ?_⟩
     ·intro g hg
      rcases List.mem_cons.1 hg with rfl | hg
      ·intro _ _; omega
      ·exact a g hg
     ·rw [c, List.filter_cons, if_pos (by simpa using h1), List.map_cons, List.sum_cons, if_pos h5]; omega
   ·rw [if_neg h5] at h ⊢
    obtain ⟨a, c⟩ := leastGo_ends l _ h
    refine ⟨?_, ?_⟩
    ·intro g hg
     rcases List.mem_cons.1 hg with rfl | hg
     ·intro _ h; exact absurd h h5
     ·exact a g hg
    ·rw [c, List.filter_cons, if_pos (by simpa using h1), List.map_cons, List.sum_cons, if_neg h5]; omega
  ·rw [if_neg h1] at h ⊢
   obtain ⟨a, c⟩ := leastGo_ends l _ h
   refine ⟨?_, ?_⟩
   ·intro g hg
    rcases List.mem_cons.1 hg with rfl | hg
    ·intro h; exact absurd h h1
    ·exact a g hg
   ·rw [c, List.filter_cons, if_neg (by simpa using h1)]
theorem leastF_ends {b : BookD} {k : Nat} {name : ByteArray} (h : 1 ≤ leastF b (k + 1) name) :
  ∃ t, findT b name = some t ∧ t.enum = false ∧ (∀ f ∈ onesL t, EndsP b k f) ∧ leastF b (k + 1) name = 1 + ((onesL t).map (leastN b k)).sum := by
 rw [leastF] at h ⊢
 cases hf : findT b name with
 | none => rw [hf] at h; simp at h
 | some t =>
  rw [hf] at h
  simp only at h ⊢
  split at h
  ·simp at h
  ·rename_i h1
   rw [if_neg h1]
   obtain ⟨a, c⟩ := leastGo_ends _ _ h
   refine ⟨t, rfl, by simpa using (not_or.1 h1).1, fun f hf => ?_, c⟩
   rw [onesL_mem] at hf
   exact a f hf.1 hf.2
theorem leastF_mono {b : BookD} : ∀ (k : Nat) (name : ByteArray), 1 ≤ leastF b k name → leastF b (k + 1) name = leastF b k name
 | 0, name, h => by simp [leastF] at h
 | k + 1, name, h => by
  have key : ∀ (l : List FieldD) (n : Nat), 1 ≤ leastGo (leastF b k) l n → leastGo (leastF b (k + 1)) l n = leastGo (leastF b k) l n := by
   intro l
   induction l with
   | nil => intro n _; rfl
   | cons f l ih =>
    intro n h
    have e := (leastGo_ends _ _ h).1 f (by simp)
    rw [leastGo] at h
    rw [leastGo, leastGo]
    by_cases h1 : f.rule = 1
    ·rw [if_pos h1] at h ⊢
     rw [if_pos h1]
     by_cases h5 : f.kind = 5
     ·rw [if_pos h5] at h ⊢
      rw [if_pos h5, leastF_mono k f.type (e h1 h5)]
      by_cases h0 : leastF b k f.type = 0
      ·rw [if_pos h0, if_pos h0]
      ·rw [if_neg h0] at h ⊢
       rw [if_neg h0]
       exact ih _ h
     ·rw [if_neg h5] at h ⊢
      rw [if_neg h5]
      exact ih _ h
    ·rw [if_neg h1] at h ⊢
     rw [if_neg h1]
     exact ih _ h
  rw [leastF] at h ⊢
  conv => rhs; rw [leastF]
  cases hf : findT b name with
  | none => rfl
  | some t =>
   rw [hf] at h
   simp only at h ⊢
   split at h
   ·simp at h
   ·rename_i h1
    rw [if_neg h1, if_neg h1]
    exact key _ _ h
theorem leastOfF_msg {b : BookD} {k : Nat} {f : FieldD} (h : f.kind = 5) : leastOfF b (k + 1) f = leastTF b k (typeOf b f.type) := by
 rw [leastOfF, if_neg (by omega), if_neg (by omega), if_pos h]
 rfl
theorem countL_map {b : BookD} {k : Nat} : ∀ (l : List FieldD), (∀ f ∈ l, countV (leastOfF b k f) = leastN b k f) → countL (l.map (leastOfF b k)) = (l.map (leastN b k)).sum
 | [], _ => rfl
 | f :: l, h => by
  rw [List.map_cons, countL, List.map_cons, List.sum_cons, h f (by simp), countL_map l (fun g hg => h g (by simp [hg]))]
theorem least_count {b : BookD} : ∀ (k : Nat) (f : FieldD), EndsP b k f → countV (leastOfF b k f) = leastN b k f
 | k, f, h => by
  unfold leastN
  by_cases h5 : f.kind = 5
  ·rw [if_pos h5]
   have h1 := h h5
   cases k with
   | zero => simp [leastF] at h1
   | succ k =>
    obtain ⟨t, ht, _, he, hc⟩ := leastF_ends h1
    rw [leastOfF_msg h5, hc, typeOf, ht, leastTF, msgV, countV]
    have := countL_map (b := b) (k := k) (onesL t) (fun g hg => least_count k g (he g hg))
    unfold onesL at this
    simp only [Option.getD_some]
    rw [this]
    unfold onesL
    omega
  ·rw [if_neg h5, leastOfF.eq_def]
   split
   ·rfl
   ·split
    ·rfl
    ·rfl
theorem least_depth {b : BookD} : ∀ (k : Nat) (f : FieldD), depthV (leastOfF b k f) ≤ k + 1
 | k, f => by
  by_cases h5 : f.kind = 5
  ·cases k with
   | zero => rw [leastOfF, if_neg (by omega), if_neg (by omega), if_pos h5]; simp [ValueD.zero, depthV, depthL]
   | succ k =>
    rw [leastOfF_msg h5, leastTF, msgV, depthV]
    have := depthL_le (n := k + 1) (l := (((typeOf b f.type).fields.filter fun g => decide (g.rule = 1)).map (leastOfF b k))) (fun x hx => by
     obtain ⟨g, _, rfl⟩ := List.mem_map.1 hx
     exact least_depth k g)
    omega
  ·rw [leastOfF.eq_def]
   split
   ·simp [depthV, depthL]
   ·split
    ·simp [depthV, depthL]
    ·simp [ValueD.zero, depthV, depthL]
theorem zip_map_mem {α β γ : Type} {f : α → β} {g : α → γ} : ∀ {l : List α} {p : β × γ}, p ∈ (l.map f).zip (l.map g) → ∃ x ∈ l, p = (f x, g x)
 | [], p, h => by simp at h
 | a :: l, p, h => by
  simp only [List.map_cons, List.zip_cons_cons, List.mem_cons] at h
  rcases h with rfl | h
  ·exact ⟨a, by simp, rfl⟩
  ·obtain ⟨x, hx, e⟩ := zip_map_mem h
   exact ⟨x, by simp [hx], e⟩
theorem follow_lt {t : TypeD} {i j : Int} (h : i < j) : Follow t i j := ⟨by omega, fun e => by omega⟩
theorem leastT_typed {b : BookD} {t : TypeD} (hm : MessageP b t) {k : Nat} (h : ∀ f ∈ onesL t, fitsF b f (leastOfF b k f) = 0 ∧ (f.kind = 5 → typedF b (typeOf b f.type) (leastOfF b k f) = 0)) : typedF b t (leastTF b k t) = 0 := by
 rw [typedF_iff]
 refine ⟨rfl, by simp [leastTF, msgV, ValueD.ids, ValueD.l], rfl, rfl, ?_, ?_, ?_, ?_⟩
 ·intro id hid
  obtain ⟨f, hf, rfl⟩ := List.mem_map.1 hid
  rw [fieldOf_mem hm (List.mem_filter.1 hf).1]; rfl
 ·show ((t.fields.filter fun g => decide (g.rule = 1)).map (·.id)).Pairwise (Follow t)
  rw [List.pairwise_map]
  exact ((msg_sorted hm).filter _).imp fun h => follow_lt h
 ·intro p hp
  obtain ⟨f, hf, rfl⟩ := zip_map_mem hp
  unfold FitP
  simp only [fieldOf_mem hm (List.mem_filter.1 hf).1, Option.getD_some]
  exact h f hf
 ·show fullF t ((t.fields.filter fun g => decide (g.rule = 1)).map (·.id)) = true
  unfold fullF
  rw [List.all_eq_true]
  intro f hf
  by_cases h1 : f.rule = 1
  ·have : hasI ((t.fields.filter fun g => decide (g.rule = 1)).map (·.id)) f.id = true := hasI_iff.2 (List.mem_map.2 ⟨f, by simp [hf, h1], rfl⟩)
   rw [this]; simp
  ·simp [h1]
theorem least_fits {b : BookD} (hg : goodF b = 0) : ∀ (k : Nat) (f : FieldD), fieldP b f → EndsP b k f → fitsF b f (leastOfF b k f) = 0 ∧ (f.kind = 5 → typedF b (typeOf b f.type) (leastOfF b k f) = 0)
 | k, f, hf, he => by
  by_cases h5 : f.kind = 5
  ·have h1 := he h5
   cases k with
   | zero => simp [leastF] at h1
   | succ k =>
    obtain ⟨t, ht, _, hen, _⟩ := leastF_ends h1
    obtain ⟨t2, ht2, hty, _, _, _, hm⟩ := field_msg hg hf h5
    obtain rfl : t = t2 := by rw [ht] at ht2; exact Option.some.inj ht2
    rw [leastOfF_msg h5, hty]
    refine ⟨?_, fun _ => leastT_typed hm fun g hgm => least_fits hg k g (msg_field hm (onesL_mem.1 hgm).1) (hen g hgm)⟩
    unfold fitsF
    have e1 : (leastTF b k t).kind = 2 := rfl
    have e2 : oddF (leastTF b k t) = false := odd_iff.2 ⟨fun h => absurd rfl h, fun _ => rfl, fun _ => rfl⟩
    rw [if_neg (by rw [e1, h5]; decide), if_neg (by rw [e2]; decide), if_neg (by omega), if_neg (by omega), if_neg (by omega), if_neg (by omega)]
  ·refine ⟨?_, fun h => absurd h h5⟩
   obtain ⟨_, _, _, k1, k2, _⟩ := id hf
   unfold fitsF
   by_cases h3 : f.kind = 3
   ·have e : leastOfF b k f = .mk 1 0 ⟨#[]⟩ [] [] := by rw [leastOfF.eq_def, if_pos h3]
    rw [e, h3]; rfl
   ·by_cases h4 : f.kind = 4
    ·obtain ⟨t, ht, hty, _, hen⟩ := field_enum hg hf h4
     have e : leastOfF b k f = .mk 0 (((typeOf b f.type).items.head?.map (·.n)).getD 0) ⟨#[]⟩ [] [] := by rw [leastOfF.eq_def, if_neg h3, if_pos h4]
     have hit : 0 < t.items.length := by have := hen.2.1; omega
     have hh : (t.items.head?.map (·.n)).getD 0 = t.items[0].n := by rw [List.head?_eq_getElem?, List.getElem?_eq_getElem hit]; rfl
     rw [e, hty, hh]
     have hmean : meansF ((findT b f.type).getD .zero) t.items[0].n = true := by
      rw [ht]
      exact List.any_eq_true.2 ⟨t.items[0], List.getElem_mem _, by simp⟩
     have e2 : oddF (.mk 0 t.items[0].n ⟨#[]⟩ [] []) = false := odd_iff.2 ⟨fun _ => ⟨rfl, rfl⟩, fun h => absurd rfl h, fun _ => rfl⟩
     rw [if_neg (by rw [h4]; exact fun h => h rfl), if_neg (by rw [e2]; decide), if_neg (by omega), if_neg (by omega), if_neg (by omega), if_pos h4]
     exact if_pos hmean
    ·have e : leastOfF b k f = .zero := by rw [leastOfF.eq_def, if_neg h3, if_neg h4, if_neg h5]
     rw [e]
     have e2 : oddF .zero = false := rfl
     have e3 : kindOf f.kind = 0 := by unfold kindOf; rw [if_neg h3, if_neg h5]
     rw [if_neg (by rw [e3]; exact fun h => h rfl), if_neg (by rw [e2]; decide)]
     have : f.kind = 1 ∨ f.kind = 2 := by omega
     rcases this with h | h
     ·rw [if_pos h]; rfl
     ·rw [if_neg (by omega), if_pos h]; rfl
theorem good_ends {b : BookD} (hg : goodF b = 0) {t : TypeD} (hm : MessageP b t) {f : FieldD} (hf : f ∈ t.fields) : EndsP b 4 f := by
 intro h5
 obtain ⟨t2, _, _, hmem, hn, he, _⟩ := field_msg hg (msg_field hm hf) h5
 have := good_least hg hmem he
 rw [hn] at this
 omega
theorem good_leastT {b : BookD} (hg : goodF b = 0) {t : TypeD} (hm : MessageP b t) : typedF b t (leastTF b 4 t) = 0 :=
 leastT_typed hm fun f hf => least_fits hg 4 f (msg_field hm (onesL_mem.1 hf).1) (good_ends hg hm (onesL_mem.1 hf).1)
theorem good_leastN {b : BookD} (hg : goodF b = 0) {t : TypeD} (ht : t ∈ b) (hfi : findT b t.name = some t) (he : t.enum = false) : countV (leastTF b 4 t) = leastF b 4 t.name := by
 have hm := good_msg hg ht he
 have h1 := (good_least hg ht he).1
 rw [← leastF_mono 4 t.name h1]
 obtain ⟨t2, ht2, _, hen, hc⟩ := leastF_ends (k := 4) (by rw [leastF_mono 4 t.name h1]; exact h1)
 obtain rfl : t = t2 := by rw [hfi] at ht2; exact Option.some.inj ht2
 rw [hc, leastTF, msgV, countV]
 have := countL_map (b := b) (k := 4) (onesL t) (fun g hg => least_count 4 g (hen g hg))
 unfold onesL at this ⊢
 rw [this]
 omega
end Go.Proofs.YtfidfakcbjoilaaGreatDoor
namespace Go.Proofs.YtfidfakcbjoilaaGreatDoor
theorem fits_msg {b : BookD} {f : FieldD} {x : ValueD} (h5 : f.kind = 5) (h1 : x.kind = 2) (h2 : x.n = 0) (h3 : x.s.size = 0) : fitsF b f x = 0 := by
 unfold fitsF
 have e2 : oddF x = false := odd_iff.2 ⟨fun h => absurd h1 h, fun _ => h2, fun _ => h3⟩
 rw [if_neg (by rw [h1, h5]; decide), if_neg (by rw [e2]; decide), if_neg (by omega), if_neg (by omega), if_neg (by omega), if_neg (by omega)]
structure Held (b : BookD) (t : TypeD) (last : Option Int) (ai : List Int) (al : List ValueD) : Prop where
 len : ai.length = al.length
 known : ∀ id ∈ ai, (fieldOf t id).isSome = true
 order : ai.Pairwise (Follow t)
 fit : ∀ p ∈ ai.zip al, FitP b t p.1 p.2
 up : ∀ i ∈ ai, ∃ k, last = some k ∧ i ≤ k
theorem Held.on {b : BookD} {t : TypeD} {last : Option Int} {ai : List Int} {al : List ValueD} (h : Held b t last ai al) {id : Int} (hf : fallsF last id = false) : Held b t (some id) ai al :=
 ⟨h.len, h.known, h.order, h.fit, fun i hi => by
  obtain ⟨k, hk, hik⟩ := h.up i hi
  subst hk
  have : ¬ id < k := by simpa [fallsF] using hf
  exact ⟨id, rfl, by omega⟩⟩
theorem Held.put {b : BookD} {t : TypeD} {last : Option Int} {ai : List Int} {al : List ValueD} (h : Held b t last ai al) {id : Int} (hf : fallsF last id = false) {f : FieldD} (hff : fieldOf t id = some f) (ht : ¬ (f.rule ≠ 3 ∧ hasI ai id = true))
  {x : ValueD} (hx : fitsF b f x = 0) (hx5 : f.kind = 5 → typedF b (typeOf b f.type) x = 0) : Held b t (some id) (ai ++ [id]) (al ++ [x]) := by
 have h' := h.on hf
 refine ⟨by simp [h.len], ?_, ?_, ?_, ?_⟩
 ·intro i hi
  rcases List.mem_append.1 hi with hi | hi
  ·exact h.known i hi
  ·simp at hi; subst hi; rw [hff]; rfl
 ·rw [List.pairwise_append]
  refine ⟨h.order, by simp, ?_⟩
  intro i hi j hj
  simp at hj; subst hj
  obtain ⟨k, hk, hik⟩ := h'.up i hi
  cases hk
  refine ⟨hik, ?_⟩
  rintro rfl
  rw [hff]
  by_cases h3 : f.rule = 3
  ·exact h3
  ·exact absurd ⟨h3, hasI_iff.2 hi⟩ ht
 ·intro p hp
  rw [List.zip_append h.len] at hp
  rcases List.mem_append.1 hp with hp | hp
  ·exact h.fit p hp
  ·simp at hp; subst hp
   unfold FitP
   simp only [hff, Option.getD_some]
   exact ⟨hx, hx5⟩
 ·intro i hi
  rcases List.mem_append.1 hi with hi | hi
  ·exact h'.up i hi
  ·simp at hi; exact ⟨id, rfl, by omega⟩
def partN (p : Part) : Nat := p.s.size + 1
theorem countL_append : ∀ (a b : List ValueD), countL (a ++ b) = countL a + countL b
 | [], b => by simp [countL]
 | x :: a, b => by rw [List.cons_append, countL, countL, countL_append a b]; omega
theorem countV_bare (p : Part) : countV (bareV p) = 1 := by simp [bareV, countV, countL]
theorem depthV_bare (p : Part) : depthV (bareV p) = 1 := by simp [bareV, depthV, depthL]
theorem decGo_held {b : BookD} {t : TypeD} {rec : TypeD → List UInt8 → ValueD × Int} {D : Nat} (hD : 1 ≤ D) (hgf : ∀ f ∈ t.fields, fieldP b f)
  (hr : ∀ f s, fieldP b f → f.kind = 5 → (rec (typeOf b f.type) s).2 = 0 → typedF b (typeOf b f.type) (rec (typeOf b f.type) s).1 = 0 ∧ countV (rec (typeOf b f.type) s).1 ≤ 12 + 12 * s.length ∧ depthV (rec (typeOf b f.type) s).1 ≤ D) :
  ∀ (ps : List Part) (last : Option Int) (ai : List Int) (al : List ValueD), Held b t last ai al → (∀ x ∈ al, depthV x ≤ D) → (decGo b rec t last ps ai al).2 = 0 →
  (∃ last', Held b t last' (decGo b rec t last ps ai al).1.1 (decGo b rec t last ps ai al).1.2) ∧ (∀ x ∈ (decGo b rec t last ps ai al).1.2, depthV x ≤ D) ∧ countL (decGo b rec t last ps ai al).1.2 ≤ countL al + 12 * (ps.map partN).sum
 | [], last, ai, al, h, hd, _ => ⟨⟨last, h⟩, hd, by simp [decGo]⟩
 | p :: ps, last, ai, al, h, hd, he => by
  rw [decGo] at he ⊢
  rw [List.map_cons, List.sum_cons]
  by_cases h1 : fallsF last p.id = true
  ·rw [if_pos h1] at he; simp at he
  ·rw [if_neg h1] at he ⊢
   have hfa : fallsF last p.id = false := by simpa using h1
   cases hff : fieldOf t p.id with
   | none =>
    rw [hff] at he
    simp only at he ⊢
    obtain ⟨a1, a2, a3⟩ := decGo_held hD hgf hr ps _ ai al (h.on hfa) hd he
    exact ⟨a1, a2, by omega⟩
   | some f =>
    rw [hff] at he
    simp only at he ⊢
    by_cases h2 : fitsF b f (bareV p) = 0
    ·rw [if_neg (by simpa using h2)] at he ⊢
     by_cases h3 : f.rule ≠ 3 ∧ hasI ai p.id = true
     ·rw [if_pos h3] at he; simp at he
     ·rw [if_neg h3] at he ⊢
      by_cases h5 : f.kind = 5
      ·rw [if_pos h5] at he ⊢
       by_cases h6 : (rec (typeOf b f.type) (bytes p.s)).2 = 0
       ·rw [if_neg (by simpa using h6)] at he ⊢
        obtain ⟨r1, r2, r3⟩ := hr f _ (hgf f (fieldOf_some hff).1) h5 h6
        have ht := (typedF_iff b _ _).1 r1
        obtain ⟨a1, a2, a3⟩ := decGo_held hD hgf hr ps _ _ _ (h.put hfa hff h3 (fits_msg h5 ht.1 ht.2.2.1 ht.2.2.2.1) (fun _ => r1)) (fun x hx => by
         rcases List.mem_append.1 hx with hx | hx
         ·exact hd x hx
         ·simp at hx; subst hx; exact r3) he
        refine ⟨a1, a2, ?_⟩
        rw [countL_append] at a3
        simp only [countL, bytes_len] at a3 r2
        unfold partN at a3 ⊢
        omega
       ·rw [if_pos h6] at he; exact absurd he h6
      ·rw [if_neg h5] at he ⊢
       obtain ⟨a1, a2, a3⟩ := decGo_held hD hgf hr ps _ _ _ (h.put hfa hff h3 h2 (fun h => absurd h h5)) (fun x hx => by
        rcases List.mem_append.1 hx with hx | hx
        ·exact hd x hx
        ·simp at hx; subst hx; rw [depthV_bare]; exact hD) he
       refine ⟨a1, a2, ?_⟩
       rw [countL_append] at a3
       simp only [countL, countV_bare] at a3
       unfold partN at a3 ⊢
       omega
    ·rw [if_pos h2] at he; exact absurd he h2
theorem filledGo_fst {b : BookD} {k : Nat} {ids : List Int} {l : List ValueD} {f : FieldD} {p : Int × ValueD} (h : p ∈ filledGo b k ids l f) : p.1 = f.id ∧ ((p = (f.id, leastOfF b k f) ∧ f.rule = 1) ∨ p ∈ ids.zip l) := by
 unfold filledGo at h
 rcases List.mem_append.1 h with h | h
 ·split at h
  ·rename_i h1
   simp at h; subst h; exact ⟨rfl, .inl ⟨rfl, h1.1⟩⟩
  ·simp at h
 ·simp only [List.mem_filter, decide_eq_true_eq] at h
  exact ⟨h.2, .inr h.1⟩
theorem filled_typed {b : BookD} (hg : goodF b = 0) {t : TypeD} (hm : MessageP b t) {last : Option Int} {ids : List Int} {l : List ValueD} (h : Held b t last ids l) : typedF b t (filledF b 4 t ids l) = 0 := by
 rw [typedF_iff]
 have hmem : ∀ p ∈ t.fields.flatMap (filledGo b 4 ids l), ∃ f ∈ t.fields, p ∈ filledGo b 4 ids l f := fun p hp => by simpa using hp
 refine ⟨rfl, by simp [filledF, msgV, ValueD.ids, ValueD.l], rfl, rfl, ?_, ?_, ?_, ?_⟩
 ·intro id hid
  obtain ⟨p, hp, rfl⟩ := List.mem_map.1 hid
  obtain ⟨f, hf, hpf⟩ := hmem p hp
  rw [(filledGo_fst hpf).1, fieldOf_mem hm hf]; rfl
 ·show ((t.fields.flatMap (filledGo b 4 ids l)).map (·.1)).Pairwise (Follow t)
  rw [List.pairwise_map, List.pairwise_flatMap]
  refine ⟨?_, ?_⟩
  ·intro f hf
   unfold filledGo
   have hfl : ((ids.zip l).filter fun p => decide (p.1 = f.id)).Pairwise (fun p q => Follow t p.1 q.1) := (zip_pair ids l h.order).filter _
   split
   ·rename_i h1
    have : ((ids.zip l).filter fun p => decide (p.1 = f.id)) = [] := by
     rw [List.filter_eq_nil_iff]
     intro p hp
     simp only [decide_eq_true_eq]
     intro e
     have h2 := h1.2
     rw [← e, hasI_iff.2 (List.of_mem_zip hp).1] at h2
     cases h2
    rw [this]; simp
   ·rw [List.nil_append]; exact hfl
  ·refine (msg_sorted hm).imp fun {f g} hfg p hp q hq => ?_
   rw [(filledGo_fst hp).1, (filledGo_fst hq).1]
   exact follow_lt hfg
 ·intro p hp
  have hz : p ∈ t.fields.flatMap (filledGo b 4 ids l) := by
   have : ∀ (L : List (Int × ValueD)), (L.map (·.1)).zip (L.map (·.2)) = L := by
    intro L; induction L with
    | nil => rfl
    | cons a L ih => simp [ih]
   have hp' : p ∈ ((t.fields.flatMap (filledGo b 4 ids l)).map (·.1)).zip ((t.fields.flatMap (filledGo b 4 ids l)).map (·.2)) := hp
   rwa [this] at hp'
  obtain ⟨f, hf, hpf⟩ := hmem p hz
  obtain ⟨e, h1 | h1⟩ := filledGo_fst hpf
  ·rw [h1.1]
   unfold FitP
   simp only [fieldOf_mem hm hf, Option.getD_some]
   exact least_fits hg 4 f (msg_field hm hf) (good_ends hg hm hf)
  ·exact h.fit p h1
 ·show fullF t ((t.fields.flatMap (filledGo b 4 ids l)).map (·.1)) = true
  unfold fullF
  rw [List.all_eq_true]
  intro f hf
  by_cases h1 : f.rule = 1
  ·have : hasI ((t.fields.flatMap (filledGo b 4 ids l)).map (·.1)) f.id = true := by
    rw [hasI_iff, List.mem_map]
    by_cases h2 : hasI ids f.id = true
    ·have h2' := hasI_iff.1 h2
     obtain ⟨i, hi, he⟩ := List.getElem_of_mem h2'
     refine ⟨(ids[i], l[i]'(by have := h.len; omega)), List.mem_flatMap.2 ⟨f, hf, ?_⟩, he⟩
     unfold filledGo
     refine List.mem_append.2 (.inr (List.mem_filter.2 ⟨?_, by simpa using he⟩))
     exact List.mem_iff_getElem.2 ⟨i, by have := h.len; simp; omega, by simp⟩
    ·refine ⟨(f.id, leastOfF b 4 f), List.mem_flatMap.2 ⟨f, hf, ?_⟩, rfl⟩
     unfold filledGo
     refine List.mem_append.2 (.inl ?_)
     rw [if_pos ⟨h1, by simpa using h2⟩]; simp
   rw [this]; simp
  ·simp [h1]
theorem filled_count {b : BookD} (hg : goodF b = 0) {t : TypeD} (ht : t ∈ b) (hfi : findT b t.name = some t) (he : t.enum = false) {last : Option Int} {ids : List Int} {l : List ValueD} (h : Held b t last ids l) : countV (filledF b 4 t ids l) ≤ 12 + countL l := by
 have hm := good_msg hg ht he
 have h1 := good_least hg ht he
 obtain ⟨t2, ht2, _, hen, hc⟩ := leastF_ends (k := 4) (by rw [leastF_mono 4 t.name h1.1]; exact h1.1)
 obtain rfl : t = t2 := by rw [hfi] at ht2; exact Option.some.inj ht2
 rw [leastF_mono 4 t.name h1.1] at hc
 have key : ∀ (F : List FieldD), (∀ f ∈ F, f ∈ t.fields) → countL ((F.flatMap (filledGo b 4 ids l)).map (·.2)) ≤ ((F.filter fun g => decide (g.rule = 1)).map (leastN b 4)).sum + countL ((F.flatMap (fun f => (ids.zip l).filter fun p => decide (p.1 = f.id))).map (·.2)) := by
  intro F
  induction F with
  | nil => intro _; simp [countL]
  | cons f F ih =>
   intro hF
   have ih := ih (fun g hg => hF g (by simp [hg]))
   rw [List.flatMap_cons, List.map_append, countL_append, List.flatMap_cons, List.map_append, countL_append]
   conv => lhs; lhs; unfold filledGo
   rw [List.map_append, countL_append]
   by_cases hr : f.rule = 1
   ·have ef : (f :: F).filter (fun g => decide (g.rule = 1)) = f :: F.filter (fun g => decide (g.rule = 1)) := by simp [hr]
    rw [ef, List.map_cons (f := leastN b 4), List.sum_cons]
    have : countL ((if f.rule = 1 ∧ hasI ids f.id = false then [(f.id, leastOfF b 4 f)] else []).map (·.2)) ≤ leastN b 4 f := by
     split
     ·simp only [List.map_cons, List.map_nil, countL]
      rw [least_count 4 f (hen f (onesL_mem.2 ⟨hF f (by simp), hr⟩))]; omega
     ·simp [countL]
    omega
   ·have ef : (f :: F).filter (fun g => decide (g.rule = 1)) = F.filter (fun g => decide (g.rule = 1)) := by simp [hr]
    rw [ef, if_neg (fun h => hr h.1)]
    simp only [List.map_nil, countL]
    omega
 have k1 := key t.fields (fun f hf => hf)
 have e2 : t.fields.flatMap (fun f => (ids.zip l).filter fun p => decide (p.1 = f.id)) = ids.zip l := by
  have : t.fields.flatMap (fun f => (ids.zip l).filter fun p => decide (p.1 = f.id)) = (t.fields.map (·.id)).flatMap (fun i => (ids.zip l).filter fun p => decide (p.1 = i)) := by
   rw [List.flatMap_map]
  rw [this]
  refine flatMap_filter _ _ ?_ ((zip_pair ids l h.order).imp fun h => h.1) ?_
  ·rw [List.pairwise_map]; exact msg_sorted hm
  ·intro p hp
   obtain ⟨f, hf⟩ := Option.isSome_iff_exists.1 (h.known p.1 (List.of_mem_zip hp).1)
   have := fieldOf_some hf
   exact List.mem_map.2 ⟨f, this.1, this.2⟩
 rw [e2, zip_snd _ _ h.len] at k1
 unfold filledF msgV
 rw [countV]
 unfold onesL at hc
 omega
theorem filled_depth {b : BookD} {t : TypeD} {ids : List Int} {l : List ValueD} {D : Nat} (hD : 5 ≤ D) (h : ∀ x ∈ l, depthV x ≤ D) : depthV (filledF b 4 t ids l) ≤ D + 1 := by
 unfold filledF msgV
 rw [depthV]
 have := depthL_le (n := D) (l := (t.fields.flatMap (filledGo b 4 ids l)).map (·.2)) (fun x hx => by
  obtain ⟨p, hp, rfl⟩ := List.mem_map.1 hx
  obtain ⟨f, hf, hpf⟩ := List.mem_flatMap.1 hp
  obtain ⟨_, h1 | h1⟩ := filledGo_fst hpf
  ·rw [h1.1]; have := least_depth (b := b) 4 f; simp only; omega
  ·exact h _ (List.of_mem_zip h1).2)
 omega
theorem held_nil (b : BookD) (t : TypeD) : Held b t none [] [] := ⟨rfl, by simp, by simp, by simp, by simp⟩
theorem sev_pos (n : Nat) : 1 ≤ (sev n).length := by
 have := sev_ne n
 cases h : sev n with
 | nil => exact absurd h this
 | cons a l => simp
theorem partN_enc {p : Part} (h : goodP p = true) : partN p ≤ (encP p).length := by
 have hb := good_bounds h
 unfold partN encP
 have := sev_pos (4 * p.id + p.kind).toNat
 rw [List.length_append]
 by_cases hk : p.kind = 0
 ·have := hb.2.2.2.2.2.2.2.1 hk
  rw [if_pos hk]; omega
 ·rw [if_neg hk, List.length_append, bytes_len]; omega
theorem partsN_enc : ∀ (l : List Part), (∀ p ∈ l, goodP p = true) → (l.map partN).sum ≤ (l.flatMap encP).length
 | [], _ => by simp
 | p :: l, h => by
  rw [List.map_cons, List.sum_cons, List.flatMap_cons, List.length_append]
  have := partN_enc (h p (by simp))
  have := partsN_enc l (fun q hq => h q (by simp [hq]))
  omega
theorem decF_parts {s : List UInt8} (h : (decF s).2 = 0) : ((decF s).1.map partN).sum ≤ s.length := by
 have h1 := wire_only (s := s) (l := (decF s).1) (by rw [← h])
 obtain ⟨e1, e2, _⟩ := encL_ok _ _ _ h1
 have := partsN_enc _ e2
 rw [List.nil_append] at e1
 have := congrArg List.length e1
 omega
theorem dec_typed {b : BookD} (hg : goodF b = 0) : ∀ (k : Nat) (t : TypeD) (s : List UInt8), t ∈ b → findT b t.name = some t → t.enum = false → (decV b k t s).2 = 0 →
  typedF b t (decV b k t s).1 = 0 ∧ countV (decV b k t s).1 ≤ 12 + 12 * s.length ∧ depthV (decV b k t s).1 ≤ k + 5
 | 0, t, s, _, _, _, h => by simp [decV] at h
 | k + 1, t, s, ht, hfi, hen, h => by
  have hm := good_msg hg ht hen
  rw [decV] at h ⊢
  by_cases h1 : (decF s).2 = 0
  ·rw [if_neg (by simpa using h1)] at h ⊢
   by_cases h2 : (decGo b (decV b k) t none (decF s).1 [] []).2 = 0
   ·rw [if_neg (by simpa using h2)]
    obtain ⟨⟨last, hh⟩, hd, hc⟩ := decGo_held (D := k + 5) (by omega) (fun f hf => msg_field hm hf) (fun f s' hf h5 hr => by
     obtain ⟨t2, a1, a2, a3, a4, a5, a6⟩ := field_msg hg hf h5
     rw [a2] at hr ⊢
     exact dec_typed hg k t2 s' a3 (by rw [a4]; exact a1) a5 hr) (decF s).1 none [] [] (held_nil b t) (by simp) h2
    refine ⟨filled_typed hg hm hh, ?_, ?_⟩
    ·have := filled_count hg ht hfi hen hh
     have := decF_parts h1
     simp only [countL] at hc
     show countV (filledF b 4 t _ _) ≤ _
     omega
    ·have := filled_depth (b := b) (t := t) (ids := (decGo b (decV b k) t none (decF s).1 [] []).1.1) (D := k + 5) (by omega) hd
     show depthV (filledF b 4 t _ _) ≤ _
     omega
   ·rw [if_pos h2] at h; exact absurd h h2
  ·rw [if_pos h1] at h; exact absurd h h1
end Go.Proofs.YtfidfakcbjoilaaGreatDoor
namespace Go.Proofs.YtfidfakcbjoilaaGreatDoor
theorem noneB_type {b : BookD} {name : ByteArray} (h : noneB b name = false) : ∃ t, findT b name = some t ∧ typeOf b name = t ∧ t ∈ b ∧ t.name = name ∧ t.enum = false := by
 unfold noneB at h
 cases hf : findT b name with
 | none => rw [hf] at h; cases h
 | some t =>
  rw [hf] at h
  exact ⟨t, rfl, by rw [typeOf, hf]; rfl, (findT_some hf).1, (findT_some hf).2, h⟩
theorem TypedF_ok {b : BookD} {name : ByteArray} {v : ValueD} (h : TypedF b name v = 0) : goodF b = 0 ∧ noneB b name = false ∧ smallF v = true ∧ typedF b (typeOf b name) v = 0 := by
 unfold TypedF at h
 split at h
 ·simp at h
 ·split at h
  ·simp at h
  ·split at h
   ·simp at h
   ·rename_i h1 h2 h3
    exact ⟨by simpa using h1, by simpa using h2, by simpa using h3, h⟩
theorem small_iff {v : ValueD} : smallF v = true ↔ depthV v ≤ 24 ∧ countV v ≤ 400 := by unfold smallF; simp
theorem value_back {b : BookD} {name : ByteArray} {v : ValueD} (h : TypedF b name v = 0) : (encV v).2 = 0 ∧ (encV v).1.length ≤ 20000 ∧ DecodeF b name (encV v).1 = (v, 0) := by
 obtain ⟨hg, hn, hs, ht⟩ := TypedF_ok h
 obtain ⟨t, _, e2, hm, _, he⟩ := noneB_type hn
 obtain ⟨hd, hc⟩ := small_iff.1 hs
 have hmp := good_msg hg hm he
 rw [e2] at ht
 obtain ⟨q1, q2⟩ := enc_ok hg 24 v t hd hc hmp ht
 have q3 := dec_enc hg 24 v t hd hmp ht q1
 refine ⟨q1, by omega, ?_⟩
 unfold DecodeF
 rw [if_neg (by simpa using hg), if_neg (by rw [hn]; decide), e2, q3]
 simp [hs]
theorem EncodeF_ok {b : BookD} {name : ByteArray} {v : ValueD} : (EncodeF b name v).2 = TypedF b name v ∧ ((EncodeF b name v).2 ≠ 0 → (EncodeF b name v).1 = []) ∧ ((EncodeF b name v).2 = 0 → EncodeF b name v = ((encV v).1, 0)) := by
 unfold EncodeF
 by_cases h : TypedF b name v = 0
 ·obtain ⟨q, _⟩ := value_back h
  rw [if_neg (by simpa using h)]
  refine ⟨by rw [q, h], fun hn => absurd q hn, fun _ => by rw [← q]⟩
 ·rw [if_pos h]
  exact ⟨rfl, fun _ => rfl, fun h0 => absurd h0 h⟩
theorem decode_typed {b : BookD} {name : ByteArray} {s : List UInt8} (h : (DecodeF b name s).2 = 0) : TypedF b name (DecodeF b name s).1 = 0 := by
 unfold DecodeF at h ⊢
 split at h
 ·simp at h
 ·rename_i h1
  split at h
  ·simp at h
  ·rename_i h2
   split at h
   ·rename_i h3; exact absurd h h3
   ·rename_i h3
    split at h
    ·simp at h
    ·rename_i h4
     rw [if_neg h1, if_neg h2, if_neg h3, if_neg h4]
     have hg : goodF b = 0 := by simpa using h1
     obtain ⟨t, e1, e2, hm, e3, he⟩ := noneB_type (b := b) (name := name) (by simpa using h2)
     unfold TypedF
     rw [if_neg h1, if_neg h2, if_neg h4]
     rw [e2] at h3 ⊢
     exact (dec_typed hg 24 t s hm (by rw [e3]; exact e1) he (by simpa using h3)).1
theorem decode_size {b : BookD} (hg : goodF b = 0) {name : ByteArray} (hn : noneB b name = false) (s : List UInt8) : countV (decV b 24 (typeOf b name) s).1 ≤ 240012 ∧ depthV (decV b 24 (typeOf b name) s).1 ≤ 29 := by
 obtain ⟨t, e1, e2, hm, e3, he⟩ := noneB_type hn
 rw [e2]
 by_cases h : (decV b 24 t s).2 = 0
 ·obtain ⟨_, a, c⟩ := dec_typed hg 24 t s hm (by rw [e3]; exact e1) he h
  have : s.length ≤ 20000 := by
   rw [decV] at h
   by_cases h1 : (decF s).2 = 0
   ·unfold decF at h1
    split at h1
    ·simp at h1
    ·omega
   ·rw [if_pos h1] at h; exact absurd h h1
  omega
 ·have : (decV b 24 t s).1 = .zero := by
   rw [decV] at h ⊢
   split
   ·rfl
   ·split
    ·rfl
    ·rename_i h1 h2
     rw [if_neg h1, if_neg h2] at h; exact absurd rfl h
  rw [this]
  simp [ValueD.zero, countV, countL, depthV, depthL]
theorem value_least {b : BookD} {name : ByteArray} (h : (LeastF b name).2 = 0) :
  TypedF b name (LeastF b name).1 = 0 ∧ DecodeF b name [] = ((LeastF b name).1, 0) ∧ countV (LeastF b name).1 = leastF b 4 name ∧ countV (LeastF b name).1 ≤ 12 ∧ depthV (LeastF b name).1 ≤ 6 := by
 unfold LeastF at h ⊢
 split at h
 ·simp at h
 ·rename_i h1
  split at h
  ·simp at h
  ·rename_i h2
   rw [if_neg h1, if_neg h2]
   have hg : goodF b = 0 := by simpa using h1
   obtain ⟨t, e1, e2, hm, e3, he⟩ := noneB_type (b := b) (name := name) (by simpa using h2)
   have hmp := good_msg hg hm he
   have hc := good_leastN hg hm (by rw [e3]; exact e1) he
   have hl := good_least hg hm he
   rw [e3] at hc hl
   have hd : depthV (leastTF b 4 t) ≤ 6 := by
    rw [leastTF, msgV, depthV]
    have := depthL_le (n := 5) (l := (t.fields.filter fun g => decide (g.rule = 1)).map (leastOfF b 4)) (fun x hx => by
     obtain ⟨g, _, rfl⟩ := List.mem_map.1 hx
     exact least_depth 4 g)
    omega
   have hs : smallF (leastTF b 4 t) = true := small_iff.2 ⟨by omega, by omega⟩
   have ht := good_leastT hg hmp
   simp only [e2]
   have hdec : decV b 24 t [] = (leastTF b 4 t, 0) := by
    rw [decV]
    have h0 : decF [] = ([], 0) := rfl
    rw [h0]
    simp only [decGo, ne_eq, not_true, if_false]
    unfold filledF leastTF
    have : t.fields.flatMap (filledGo b 4 [] []) = (t.fields.filter fun g => decide (g.rule = 1)).map fun f => (f.id, leastOfF b 4 f) := by
     generalize t.fields = F
     induction F with
     | nil => rfl
     | cons f F ih =>
      rw [List.flatMap_cons, ih]
      by_cases hr : f.rule = 1
      ·simp [filledGo, hasI, hr]
      ·simp [filledGo, hasI, hr]
    rw [this, List.map_map, List.map_map]
    rfl
   refine ⟨?_, ?_, hc, by omega, hd⟩
   ·unfold TypedF
    rw [if_neg h1, if_neg h2, if_neg (by rw [hs]; decide), e2]
    exact ht
   ·unfold DecodeF
    rw [if_neg h1, if_neg h2, e2, hdec]
    simp [hs]
theorem DecodeF_none {b : BookD} {name : ByteArray} {s : List UInt8} (h : (DecodeF b name s).2 ≠ 0) : (DecodeF b name s).1 = .zero := by
 unfold DecodeF at h ⊢
 split
 ·rfl
 ·split
  ·rfl
  ·split
   ·rfl
   ·split
    ·rfl
    ·rename_i h1 h2 h3 h4
     rw [if_neg h1, if_neg h2, if_neg h3, if_neg h4] at h; exact absurd rfl h
end Go.Proofs.YtfidfakcbjoilaaGreatDoor
