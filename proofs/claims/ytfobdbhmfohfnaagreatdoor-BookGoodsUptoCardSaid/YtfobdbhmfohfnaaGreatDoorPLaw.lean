/- Several texts of walks and laws in one file; what each proves stands at its head. -/
import Derived.Test.YtfobdbhmfohfnaaGreatDoorBase
set_option linter.all false
namespace Go.Proofs.YtfobdbhmfohfnaaGreatDoor
structure Part where
 id : Int
 kind : Int
 n : Int
 s : ByteArray
deriving DecidableEq
def goodP (p : Part) : Bool :=
 decide (1 ≤ p.id ∧ p.id ≤ 30 ∧ -1099511627776 ≤ p.n ∧ p.n ≤ 1099511627776 ∧ p.s.size ≤ 20000) &&
  (decide (p.kind = 0 ∧ p.s.size = 0) || decide ((p.kind = 1 ∨ p.kind = 2) ∧ p.n = 0))
def sev (n : Nat) : List UInt8 :=
 if h : n < 128 then [UInt8.ofNat n] else UInt8.ofNat (n % 128 + 128) :: sev (n / 128)
 termination_by n
 decreasing_by omega
def zig (n : Int) : Nat := if n < 0 then (-2 * n - 1).toNat else (2 * n).toNat
def encP (p : Part) : List UInt8 :=
 sev (4 * p.id + p.kind).toNat ++ (if p.kind = 0 then sev (zig p.n) else sev p.s.size ++ bytes p.s)
def encL : List Part → List UInt8 → List UInt8 × Int
 | [], acc => (acc, 0)
 | p :: l, acc => if goodP p then (if 20000 < (acc ++ encP p).length then ([], 7) else encL l (acc ++ encP p)) else ([], 1)
theorem sev_lt {n : Nat} (h : n < 128) : sev n = [UInt8.ofNat n] := by rw [sev, dif_pos h]
theorem sev_ge {n : Nat} (h : ¬ n < 128) : sev n = UInt8.ofNat (n % 128 + 128) :: sev (n / 128) := by rw [sev, dif_neg h]
theorem sev_len (k : Nat) : ∀ n, n < 128 ^ (k + 1) → (sev n).length ≤ k + 1 := by
 induction k with
 | zero => intro n h; rw [sev_lt (by simpa using h)]; simp
 | succ k ih =>
  intro n h
  by_cases hn : n < 128
  ·rw [sev_lt hn]; simp
  ·rw [sev_ge hn]
   have : n / 128 < 128 ^ (k + 1) := by rw [Nat.pow_succ] at h; omega
   have := ih _ this
   simp; omega
theorem sev_len10 {n : Nat} (h : n < 18446744073709551616) : (sev n).length ≤ 10 :=
 sev_len 9 n (Nat.lt_of_lt_of_le h (by decide))
theorem zig_eq (n : Int) : (if n < 0 then -2 * n - 1 else 2 * n).toNat = zig n := by unfold zig; split <;> rfl
theorem zig_neg {n : Int} (h : n < 0) : zig n = (-2 * n - 1).toNat := by unfold zig; rw [if_pos h]
theorem zig_nn {n : Int} (h : 0 ≤ n) : zig n = (2 * n).toNat := by unfold zig; rw [if_neg (by omega)]
theorem sev_len6 {n : Nat} (h : n < 4398046511104) : (sev n).length ≤ 6 := sev_len 5 n (Nat.lt_of_lt_of_le h (by decide))
theorem encP_len (p : Part) (h : goodP p = true) : (encP p).length ≤ 20012 := by
 simp [goodP] at h
 have h1 : (sev (4 * p.id + p.kind).toNat).length ≤ 6 := sev_len6 (by omega)
 have h2 : (sev (zig p.n)).length ≤ 6 := sev_len6 (by unfold zig; split <;> omega)
 have h3 : (sev p.s.size).length ≤ 6 := sev_len6 (by omega)
 have h4 : (bytes p.s).length = p.s.size := rfl
 unfold encP
 rw [List.length_append]
 split
 ·omega
 ·rw [List.length_append]; omega
end Go.Proofs.YtfobdbhmfohfnaaGreatDoor
namespace Go.Proofs.YtfobdbhmfohfnaaGreatDoor
def getGo (s : List UInt8) : Nat → Nat → Nat → Nat × Nat × Bool
 | 0, _, _ => (0, 0, true)
 | f + 1, i, n =>
  if h : i < s.length then
   if s[i].toNat < 128 then (n + s[i].toNat * 128 ^ i, i + 1, decide (s[i].toNat = 0 ∧ 0 < i))
   else getGo s f (i + 1) (n + (s[i].toNat % 128) * 128 ^ i)
  else (0, 0, true)
def getF (s : List UInt8) : Nat × Nat × Bool := getGo s 6 0 0
def zag (n : Nat) : Int := if n % 2 = 0 then (n / 2 : Nat) else -(((n + 1) / 2 : Nat) : Int)
def stepD (s : List UInt8) : Option (Part × List UInt8) :=
 let (key, m1, b1) := getF s
 let s1 := s.drop m1
 let (n, m2, b2) := getF s1
 let s2 := s1.drop m2
 if b1 ∨ b2 then none
 else if key % 4 = 0 then
  let p : Part := ⟨key / 4, 0, zag n, ⟨#[]⟩⟩
  if goodP p then some (p, s2) else none
 else if n ≤ s2.length then
  let p : Part := ⟨key / 4, key % 4, 0, ⟨(s2.take n).toArray⟩⟩
  if goodP p then some (p, s2.drop n) else none
 else none
def decL : Nat → List UInt8 → List Part → List Part × Int
 | 0, _, acc => (acc, 0)
 | f + 1, s, acc => if s = [] then (acc, 0) else match stepD s with
  | none => ([], 1)
  | some (p, s') => decL f s' (acc ++ [p])
def decF (s : List UInt8) : List Part × Int := if 20000 < s.length then ([], 7) else decL s.length s []
theorem getGo_hit {s : List UInt8} {k n : Nat} (h6 : k < 6) (h : k < s.length) (hc : s[k].toNat < 128) : getGo s (6 - k) k n = (n + s[k].toNat * 128 ^ k, k + 1, decide (s[k].toNat = 0 ∧ 0 < k)) := by
 rw [show 6 - k = (5 - k) + 1 from by omega, getGo, dif_pos h, if_pos hc]
theorem getGo_on {s : List UInt8} {k n : Nat} (h6 : k < 6) (h : k < s.length) (hc : ¬ s[k].toNat < 128) : getGo s (6 - k) k n = getGo s (6 - (k + 1)) (k + 1) (n + (s[k].toNat % 128) * 128 ^ k) := by
 rw [show 6 - k = (5 - k) + 1 from by omega, getGo, dif_pos h, if_neg hc, show 6 - (k + 1) = 5 - k from by omega]
theorem getGo_end {s : List UInt8} {k n : Nat} (hk : k ≤ 6) (h : ¬ (k < 6 ∧ k < s.length)) : getGo s (6 - k) k n = (0, 0, true) := by
 by_cases h6 : k < 6
 ·rw [show 6 - k = (5 - k) + 1 from by omega, getGo, dif_neg (by omega)]
 ·rw [show 6 - k = 0 from by omega, getGo]
theorem getGo_lt (s : List UInt8) : ∀ (f i n : Nat), n < 128 ^ i → (getGo s f i n).1 < 128 ^ (i + f)
 | 0, i, n, h => by simp [getGo]; exact Nat.pow_pos (by decide)
 | f + 1, i, n, h => by
  have hp : 0 < 128 ^ i := Nat.pow_pos (by decide)
  have hm : 128 ^ (i + 1) = 128 * 128 ^ i := by rw [Nat.pow_succ, Nat.mul_comm]
  have hle : 128 ^ (i + 1) ≤ 128 ^ (i + (f + 1)) := Nat.pow_le_pow_right (by decide) (by omega)
  rw [getGo]
  split
  ·split
   ·rename_i h1 h2
    have : s[i].toNat * 128 ^ i ≤ 127 * 128 ^ i := Nat.mul_le_mul_right _ (by omega)
    simp only
    omega
   ·rename_i h1 h2
    have h3 : (s[i].toNat % 128) * 128 ^ i ≤ 127 * 128 ^ i := Nat.mul_le_mul_right _ (by omega)
    have := getGo_lt s f (i + 1) (n + (s[i].toNat % 128) * 128 ^ i) (by omega)
    rw [show i + (f + 1) = i + 1 + f from by omega]
    exact this
  ·exact Nat.pow_pos (by decide)
theorem getF_lt (s : List UInt8) : (getF s).1 < 4398046511104 := getGo_lt s 6 0 0 (by decide)
theorem getGo_len (s : List UInt8) : ∀ (f i n : Nat), (getGo s f i n).2.1 ≤ s.length
 | 0, i, n => by simp [getGo]
 | f + 1, i, n => by
  rw [getGo]
  split
  ·split
   ·simp only; omega
   ·exact getGo_len s f _ _
  ·simp
theorem getF_len (s : List UInt8) : (getF s).2.1 ≤ s.length := getGo_len s 6 0 0
theorem getGo_bad (s : List UInt8) : ∀ (f i n : Nat), (getGo s f i n).2.2 = false → 0 < (getGo s f i n).2.1
 | 0, i, n => by simp [getGo]
 | f + 1, i, n => by
  rw [getGo]
  split
  ·split
   ·intro _; simp only; omega
   ·exact getGo_bad s f _ _
  ·simp
theorem getF_bad (s : List UInt8) : (getF s).2.2 = false → 0 < (getF s).2.1 := getGo_bad s 6 0 0
theorem stepD_eq {s : List UInt8} {key m1 n m2 : Nat} {b1 b2 : Bool} (h1 : getF s = (key, m1, b1)) (h2 : getF (s.drop m1) = (n, m2, b2)) :
  stepD s = if b1 = true ∨ b2 = true then none
   else if key % 4 = 0 then (if goodP ⟨key / 4, 0, zag n, ⟨#[]⟩⟩ then some (⟨key / 4, 0, zag n, ⟨#[]⟩⟩, (s.drop m1).drop m2) else none)
   else if n ≤ ((s.drop m1).drop m2).length then
    (if goodP ⟨key / 4, key % 4, 0, ⟨(((s.drop m1).drop m2).take n).toArray⟩⟩ then some (⟨key / 4, key % 4, 0, ⟨(((s.drop m1).drop m2).take n).toArray⟩⟩, ((s.drop m1).drop m2).drop n) else none)
   else none := by
 unfold stepD
 rw [h1]
 simp only
 rw [h2]
theorem zag_even {n : Nat} (h : n % 2 = 0) : zag n = (n : Int) / 2 := by unfold zag; rw [if_pos h]; omega
theorem zag_odd {n : Nat} (h : ¬ n % 2 = 0) : zag n = -((n : Int) / 2) - 1 := by unfold zag; rw [if_neg h]; omega
theorem stepD_len {s s' : List UInt8} {p : Part} (h : stepD s = some (p, s')) : s'.length < s.length := by
 unfold stepD at h
 have h1 := getF_bad s
 have h2 := getF_len s
 revert h
 generalize getF s = r1 at *
 obtain ⟨key, m1, b1⟩ := r1
 simp only at *
 generalize getF (s.drop m1) = r2
 obtain ⟨n, m2, b2⟩ := r2
 simp only
 intro h
 by_cases hb : b1 = true ∨ b2 = true
 ·rw [if_pos hb] at h; cases h
 ·rw [if_neg hb] at h
  have hb1 : b1 = false := by cases b1 <;> simp_all
  have := h1 hb1
  split at h
  ·split at h
   ·injection h with h; injection h with _ h; subst h; simp; omega
   ·cases h
  ·split at h
   ·split at h
    ·injection h with h; injection h with _ h; subst h; simp; omega
    ·cases h
   ·cases h
theorem decL_nil (f : Nat) (acc : List Part) : decL f [] acc = (acc, 0) := by cases f <;> simp [decL]
theorem decL_any : ∀ (f g : Nat) (s : List UInt8) (acc : List Part), s.length ≤ f → s.length ≤ g → decL f s acc = decL g s acc := by
 intro f
 induction f with
 | zero =>
  intro g s acc h _
  have : s = [] := List.eq_nil_of_length_eq_zero (by omega)
  subst this; rw [decL_nil, decL_nil]
 | succ f ih =>
  intro g s acc h h'
  by_cases hs : s = []
  ·subst hs; rw [decL_nil, decL_nil]
  ·obtain ⟨g', rfl⟩ : ∃ g', g = g' + 1 := ⟨g - 1, by have := List.length_pos_iff.2 hs; omega⟩
   rw [decL, decL, if_neg hs, if_neg hs]
   cases hst : stepD s with
   | none => rfl
   | some r =>
    obtain ⟨p, s'⟩ := r
    have := stepD_len hst
    exact ih g' s' _ (by omega) (by omega)
theorem decL_on {s s' : List UInt8} {p : Part} {acc : List Part} (hs : s ≠ []) (h : stepD s = some (p, s')) : decL s.length s acc = decL s'.length s' (acc ++ [p]) := by
 obtain ⟨g, hg⟩ : ∃ g, s.length = g + 1 := ⟨s.length - 1, by have := List.length_pos_iff.2 hs; omega⟩
 rw [hg, decL, if_neg hs, h]
 have := stepD_len h
 exact decL_any _ _ _ _ (by omega) (by omega)
theorem decL_stop {s : List UInt8} {acc : List Part} (hs : s ≠ []) (h : stepD s = none) : decL s.length s acc = ([], 1) := by
 obtain ⟨g, hg⟩ : ∃ g, s.length = g + 1 := ⟨s.length - 1, by have := List.length_pos_iff.2 hs; omega⟩
 rw [hg, decL, if_neg hs, h]
end Go.Proofs.YtfobdbhmfohfnaaGreatDoor
namespace Go.Proofs.YtfobdbhmfohfnaaGreatDoor
theorem u8_back (c : UInt8) (h : ¬ c.toNat < 128) : UInt8.ofNat (c.toNat % 128 + 128) = c := by
 have := c.toNat_lt
 apply UInt8.toNat_inj.1
 rw [UInt8.toNat_ofNat']
 omega
theorem sev_ne (n : Nat) : sev n ≠ [] := by
 by_cases h : n < 128
 ·rw [sev_lt h]; simp
 ·rw [sev_ge h]; simp
theorem drop_head {s : List UInt8} {i : Nat} {c : UInt8} {r : List UInt8} (h : s.drop i = c :: r) : ∃ hi : i < s.length, s[i] = c ∧ s.drop (i + 1) = r := by
 have hi : i < s.length := by
  rcases Nat.lt_or_ge i s.length with h' | h'
  ·exact h'
  ·rw [List.drop_eq_nil_of_le h'] at h; cases h
 rw [List.drop_eq_getElem_cons hi] at h
 injection h with h1 h2
 exact ⟨hi, h1, h2⟩
theorem getGo_sev (s : List UInt8) : ∀ (f i n x : Nat) (rest : List UInt8), 0 < f → x < 128 ^ f → s.drop i = sev x ++ rest → getGo s f i n = (n + x * 128 ^ i, i + (sev x).length, decide (x = 0 ∧ 0 < i))
 | 0, _, _, _, _, h, _, _ => absurd h (by omega)
 | f + 1, i, n, x, rest, _, hx, hd => by
  by_cases h : x < 128
  ·rw [sev_lt h] at hd ⊢
   obtain ⟨hi, hc, _⟩ := drop_head hd
   have ht : s[i].toNat = x := by rw [hc, UInt8.toNat_ofNat']; omega
   rw [getGo, dif_pos hi, if_pos (by rw [ht]; exact h), ht]; rfl
  ·rw [sev_ge h] at hd ⊢
   obtain ⟨hi, hc, hr⟩ := drop_head hd
   have ht : s[i].toNat = x % 128 + 128 := by rw [hc, UInt8.toNat_ofNat']; omega
   have hf : 0 < f := by
    rcases Nat.eq_zero_or_pos f with h0 | h0
    ·subst h0; simp at hx; omega
    ·exact h0
   have hx' : x / 128 < 128 ^ f := by rw [Nat.pow_succ] at hx; omega
   rw [getGo, dif_pos hi, if_neg (by rw [ht]; omega), getGo_sev s f (i + 1) _ (x / 128) rest hf hx' hr]
   have e1 : s[i].toNat % 128 = x % 128 := by rw [ht]; omega
   have e2 : n + s[i].toNat % 128 * 128 ^ i + x / 128 * 128 ^ (i + 1) = n + x * 128 ^ i := by
    rw [e1, Nat.pow_succ]
    have : x * 128 ^ i = (x % 128 + 128 * (x / 128)) * 128 ^ i := by rw [Nat.mod_add_div]
    rw [this, Nat.add_mul, ← Nat.mul_assoc, Nat.mul_comm (x / 128 * 128 ^ i) 128, ← Nat.mul_assoc, Nat.add_assoc]
   rw [e2]
   have e3 : decide (x / 128 = 0 ∧ 0 < i + 1) = false := by simp; omega
   have e4 : decide (x = 0 ∧ 0 < i) = false := by simp; omega
   rw [e3, e4, List.length_cons]
   congr 2; omega
theorem getF_sev {s : List UInt8} {x : Nat} {rest : List UInt8} (hx : x < 4398046511104) (h : s = sev x ++ rest) : getF s = (x, (sev x).length, false) := by
 have := getGo_sev s 6 0 0 x rest (by decide) hx (by simpa using h)
 rw [getF, this]; simp
theorem getGo_only (s : List UInt8) : ∀ (f i n r m : Nat), getGo s f i n = (r, m, false) → ∃ x, r = n + x * 128 ^ i ∧ s.drop i = sev x ++ s.drop m ∧ i < m ∧ (i = 0 ∨ x ≠ 0)
 | 0, i, n, r, m, h => by simp [getGo] at h
 | f + 1, i, n, r, m, h => by
  rw [getGo] at h
  split at h
  ·rename_i hi
   split at h
   ·rename_i hc
    simp only [Prod.mk.injEq, decide_eq_false_iff_not] at h
    obtain ⟨rfl, rfl, hb⟩ := h
    refine ⟨s[i].toNat, rfl, ?_, by omega, by omega⟩
    rw [sev_lt hc, List.drop_eq_getElem_cons hi]
    simp
   ·rename_i hc
    obtain ⟨x, hr, hd, hm, hx⟩ := getGo_only s f (i + 1) _ r m h
    have hx0 : x ≠ 0 := by omega
    refine ⟨s[i].toNat % 128 + 128 * x, ?_, ?_, by omega, by omega⟩
    ·rw [hr, Nat.pow_succ, Nat.add_mul, ← Nat.mul_assoc, Nat.mul_comm (x * 128 ^ i) 128, ← Nat.mul_assoc, Nat.add_assoc]
    ·have h1 : ¬ (s[i].toNat % 128 + 128 * x) < 128 := by omega
     rw [sev_ge h1, List.drop_eq_getElem_cons hi, hd]
     have e1 : (s[i].toNat % 128 + 128 * x) % 128 = s[i].toNat % 128 := by omega
     have e2 : (s[i].toNat % 128 + 128 * x) / 128 = x := by omega
     rw [e1, e2, u8_back _ hc]; rfl
  ·simp at h
theorem getF_only {s : List UInt8} {r m : Nat} (h : getF s = (r, m, false)) : s = sev r ++ s.drop m ∧ 0 < m := by
 obtain ⟨x, hr, hd, hm, _⟩ := getGo_only s 6 0 0 r m h
 have : r = x := by simpa using hr
 subst this
 exact ⟨by simpa using hd, hm⟩
theorem zag_zig (n : Int) : zag (zig n) = n := by
 by_cases h : n < 0
 ·rw [zig_neg h, zag_odd (by omega)]; omega
 ·rw [zig_nn (by omega), zag_even (by omega)]; omega
theorem zig_zag (n : Nat) : zig (zag n) = n := by
 by_cases h : n % 2 = 0
 ·rw [zag_even h, zig_nn (by omega)]; omega
 ·rw [zag_odd h, zig_neg (by omega)]; omega
theorem good_bounds {p : Part} (h : goodP p = true) : 1 ≤ p.id ∧ p.id ≤ 30 ∧ 0 ≤ p.kind ∧ p.kind ≤ 2 ∧ -1099511627776 ≤ p.n ∧ p.n ≤ 1099511627776 ∧ p.s.size ≤ 20000 ∧ (p.kind = 0 → p.s.size = 0) ∧ (p.kind ≠ 0 → p.n = 0) := by
 simp only [goodP, Bool.and_eq_true, Bool.or_eq_true, decide_eq_true_eq] at h
 omega
theorem stepD_enc {p : Part} (hg : goodP p = true) (rest : List UInt8) : stepD (encP p ++ rest) = some (p, rest) := by
 obtain ⟨i1, i2, k1, k2, n1, n2, s1, h0, hn⟩ := good_bounds hg
 obtain ⟨id, kind, n, s⟩ := p
 simp only at *
 have hkl : (4 * id + kind).toNat < 4398046511104 := by omega
 by_cases hk : kind = 0
 ·subst hk
  have hzl : zig n < 4398046511104 := by unfold zig; split <;> omega
  have he : encP ⟨id, 0, n, s⟩ ++ rest = sev (4 * id + 0).toNat ++ (sev (zig n) ++ rest) := by rw [encP, if_pos rfl, List.append_assoc]
  have g1 := getF_sev hkl he
  have hd : (encP ⟨id, 0, n, s⟩ ++ rest).drop (sev (4 * id + 0).toNat).length = sev (zig n) ++ rest := by rw [he, List.drop_left]
  have g2 := getF_sev hzl hd
  rw [stepD_eq g1 g2, if_neg (by simp), if_pos (by omega), hd, List.drop_left, zag_zig]
  have hs : s = ⟨#[]⟩ := ba_of (List.eq_nil_of_length_eq_zero (h0 rfl))
  have hi : (((4 * id + 0).toNat : Nat) : Int) / 4 = id := by omega
  rw [hi, ← hs, if_pos hg]
 ·have hsl : s.size < 4398046511104 := by omega
  have hn0 : n = 0 := hn hk
  subst hn0
  have he : encP ⟨id, kind, 0, s⟩ ++ rest = sev (4 * id + kind).toNat ++ (sev s.size ++ (bytes s ++ rest)) := by
   rw [encP, if_neg hk]; simp [List.append_assoc]
  have g1 := getF_sev hkl he
  have hd : (encP ⟨id, kind, 0, s⟩ ++ rest).drop (sev (4 * id + kind).toNat).length = sev s.size ++ (bytes s ++ rest) := by rw [he, List.drop_left]
  have g2 := getF_sev hsl hd
  have hl : s.size = (bytes s).length := rfl
  rw [stepD_eq g1 g2, if_neg (by simp), if_neg (by omega), hd, List.drop_left, if_pos (by rw [List.length_append]; omega), hl, List.take_left, List.drop_left]
  have hi : (((4 * id + kind).toNat : Nat) : Int) / 4 = id := by omega
  have hm : (((4 * id + kind).toNat : Nat) : Int) % 4 = kind := by omega
  have hs : (⟨(bytes s).toArray⟩ : ByteArray) = s := (ba_of rfl).symm
  rw [hi, hm, hs, if_pos hg]
theorem stepD_only {s s' : List UInt8} {p : Part} (h : stepD s = some (p, s')) : goodP p = true ∧ s = encP p ++ s' := by
 obtain ⟨key, m1, b1, g1⟩ : ∃ k m b, getF s = (k, m, b) := ⟨_, _, _, rfl⟩
 obtain ⟨n, m2, b2, g2⟩ : ∃ k m b, getF (s.drop m1) = (k, m, b) := ⟨_, _, _, rfl⟩
 rw [stepD_eq g1 g2] at h
 by_cases hb : b1 = true ∨ b2 = true
 ·rw [if_pos hb] at h; cases h
 rw [if_neg hb] at h
 have hb1 : b1 = false := by cases b1 <;> simp_all
 have hb2 : b2 = false := by cases b2 <;> simp_all
 subst hb1 hb2
 obtain ⟨e1, _⟩ := getF_only g1
 obtain ⟨e2, _⟩ := getF_only g2
 by_cases hk : key % 4 = 0
 ·rw [if_pos hk] at h
  split at h
  ·rename_i hg
   injection h with h
   injection h with hp hs
   subst hp
   refine ⟨hg, ?_⟩
   subst hs
   have ek : (4 * ((key : Int) / 4) + 0).toNat = key := by omega
   rw [encP, if_pos rfl, zig_zag, ek, List.append_assoc, ← e2]
   exact e1
  ·cases h
 ·rw [if_neg hk] at h
  split at h
  ·rename_i hn
   split at h
   ·rename_i hg
    injection h with h
    injection h with hp hs
    subst hp
    refine ⟨hg, ?_⟩
    subst hs
    have ek : (4 * ((key : Int) / 4) + (key : Int) % 4).toNat = key := by omega
    have hz : ¬ ((key : Int) % 4) = 0 := by omega
    have hsz : (⟨(((s.drop m1).drop m2).take n).toArray⟩ : ByteArray).size = n := by
     show (((s.drop m1).drop m2).take n).toArray.size = n
     simp at hn ⊢; omega
    rw [encP, if_neg hz, ek, hsz, bytes_of, List.append_assoc, List.append_assoc, List.take_append_drop, ← e2]
    exact e1
   ·cases h
  ·cases h
theorem encL_ok : ∀ (l : List Part) (acc r : List UInt8), encL l acc = (r, 0) → r = acc ++ l.flatMap encP ∧ (∀ p ∈ l, goodP p = true) ∧ (l ≠ [] → r.length ≤ 20000)
 | [], acc, r, h => by simp [encL] at h; simp [h]
 | p :: l, acc, r, h => by
  rw [encL] at h
  by_cases hg : goodP p = true
  ·rw [if_pos hg] at h
   by_cases hl : 20000 < (acc ++ encP p).length
   ·rw [if_pos hl] at h; simp at h
   ·rw [if_neg hl] at h
    obtain ⟨h1, h2, h3⟩ := encL_ok l _ _ h
    refine ⟨by rw [h1]; simp, fun q hq => ?_, fun _ => ?_⟩
    ·rcases List.mem_cons.1 hq with rfl | h
     ·exact hg
     ·exact h2 q h
    ·by_cases hn : l = []
     ·subst hn; rw [h1]; simp at hl ⊢; omega
     ·exact h3 hn
  ·rw [if_neg hg] at h; simp at h
theorem decL_flat : ∀ (l : List Part) (acc : List Part), (∀ p ∈ l, goodP p = true) → decL (l.flatMap encP).length (l.flatMap encP) acc = (acc ++ l, 0)
 | [], acc, _ => by simp [decL]
 | p :: l, acc, h => by
  have hne : (p :: l).flatMap encP ≠ [] := by
   rw [List.flatMap_cons]
   intro h
   have h1 := (List.append_eq_nil_iff.1 h).1
   unfold encP at h1
   exact sev_ne _ (List.append_eq_nil_iff.1 h1).1
  have hst := stepD_enc (h p (by simp)) (l.flatMap encP)
  rw [← List.flatMap_cons] at hst
  rw [decL_on hne hst, decL_flat l _ (fun q hq => h q (by simp [hq]))]
  simp
theorem wire_back {l : List Part} {r : List UInt8} (h : encL l [] = (r, 0)) : decF r = (l, 0) := by
 obtain ⟨h1, h2, h3⟩ := encL_ok l [] r h
 simp at h1
 have hl : ¬ 20000 < r.length := by
  by_cases hn : l = []
  ·subst hn; subst h1; simp
  ·have := h3 hn; omega
 rw [decF, if_neg hl, h1, decL_flat l [] h2]; rfl
theorem decL_only : ∀ (f : Nat) (s : List UInt8) (acc l : List Part), decL f s acc = (l, 0) → s.length ≤ f → ∃ l', l = acc ++ l' ∧ s = l'.flatMap encP ∧ ∀ p ∈ l', goodP p = true
 | 0, s, acc, l, h, hs => by
  have : s = [] := List.eq_nil_of_length_eq_zero (by omega)
  subst this
  simp [decL] at h
  exact ⟨[], by simp [h], by simp, by simp⟩
 | f + 1, s, acc, l, h, hs => by
  rw [decL] at h
  by_cases hn : s = []
  ·rw [if_pos hn] at h
   simp at h
   exact ⟨[], by simp [h], by simp [hn], by simp⟩
  ·rw [if_neg hn] at h
   cases hst : stepD s with
   | none => rw [hst] at h; simp at h
   | some r =>
    obtain ⟨p, s'⟩ := r
    rw [hst] at h
    have hl := stepD_len hst
    obtain ⟨hg, he⟩ := stepD_only hst
    obtain ⟨l', h1, h2, h3⟩ := decL_only f s' _ l h (by omega)
    refine ⟨p :: l', by simp [h1], by rw [List.flatMap_cons, ← h2]; exact he, fun q hq => ?_⟩
    rcases List.mem_cons.1 hq with rfl | h
    ·exact hg
    ·exact h3 q h
theorem encL_flat : ∀ (l : List Part) (acc : List UInt8), (∀ p ∈ l, goodP p = true) → (acc ++ l.flatMap encP).length ≤ 20000 → encL l acc = (acc ++ l.flatMap encP, 0)
 | [], acc, _, _ => by simp [encL]
 | p :: l, acc, h, hl => by
  have hl' : ¬ 20000 < (acc ++ encP p).length := by
   rw [List.flatMap_cons, ← List.append_assoc, List.length_append] at hl; omega
  rw [encL, if_pos (h p (by simp)), if_neg hl', encL_flat l _ (fun q hq => h q (by simp [hq])) (by rw [List.flatMap_cons, ← List.append_assoc] at hl; exact hl)]
  simp
theorem wire_only {s : List UInt8} {l : List Part} (h : decF s = (l, 0)) : encL l [] = (s, 0) := by
 unfold decF at h
 by_cases hl : 20000 < s.length
 ·rw [if_pos hl] at h; simp at h
 ·rw [if_neg hl] at h
  obtain ⟨l', h1, h2, h3⟩ := decL_only _ s [] l h (Nat.le_refl _)
  simp at h1
  subst h1
  rw [encL_flat l [] h3 (by rw [← h2]; simp; omega), ← h2]; rfl
theorem decF_code (s : List UInt8) : (decF s).2 ≠ 0 → (decF s).1 = [] := by
 unfold decF
 split
 ·intro _; rfl
 ·have : ∀ (f : Nat) (s : List UInt8) (acc : List Part), (decL f s acc).2 ≠ 0 → (decL f s acc).1 = [] := by
   intro f
   induction f with
   | zero => intro s acc h; simp [decL] at h
   | succ f ih =>
    intro s acc h
    rw [decL] at h ⊢
    by_cases hn : s = []
    ·rw [if_pos hn] at h; simp at h
    ·rw [if_neg hn] at h ⊢
     cases hst : stepD s with
     | none => rfl
     | some r => rw [hst] at h; exact ih _ _ h
  exact this _ _ _
theorem encL_code : ∀ (l : List Part) (acc : List UInt8), (encL l acc).2 ≠ 0 → (encL l acc).1 = []
 | [], acc, h => by simp [encL] at h
 | p :: l, acc, h => by
  rw [encL] at h ⊢
  by_cases hg : goodP p = true
  ·rw [if_pos hg] at h ⊢
   split
   ·rfl
   ·rename_i hl
    rw [if_neg hl] at h
    exact encL_code l _ h
  ·rw [if_neg hg]
end Go.Proofs.YtfobdbhmfohfnaaGreatDoor
namespace Go.Proofs.YtfobdbhmfohfnaaGreatDoor
inductive ValueD where
 | mk (kind n : Int) (s : ByteArray) (ids : List Int) (l : List ValueD)
namespace ValueD
def kind : ValueD → Int | mk k _ _ _ _ => k
def n : ValueD → Int | mk _ n _ _ _ => n
def s : ValueD → ByteArray | mk _ _ s _ _ => s
def ids : ValueD → List Int | mk _ _ _ i _ => i
def l : ValueD → List ValueD | mk _ _ _ _ l => l
def zero : ValueD := mk 0 0 ⟨#[]⟩ [] []
end ValueD
def msgV (ids : List Int) (l : List ValueD) : ValueD := .mk 2 0 ⟨#[]⟩ ids l
def plainF (s : ByteArray) : Bool := (bytes s).all (fun c => decide (c.toNat < 128)) && decide (s.size ≤ 40)
mutual
def depthV : ValueD → Nat
 | .mk _ _ _ _ l => depthL l + 1
def depthL : List ValueD → Nat
 | [] => 0
 | x :: l => max (depthV x) (depthL l)
end
mutual
def countV : ValueD → Nat
 | .mk _ _ _ _ l => countL l + 1
def countL : List ValueD → Nat
 | [] => 0
 | x :: l => countV x + countL l
end
def smallF (v : ValueD) : Bool := decide (depthV v ≤ 24 ∧ countV v ≤ 400)
def kindOf (k : Int) : Int := if k = 3 then 1 else if k = 5 then 2 else 0
def oddF (v : ValueD) : Bool := decide ((v.kind ≠ 2 ∧ 0 < v.ids.length + v.l.length) ∨ (v.kind ≠ 0 ∧ v.n ≠ 0) ∨ (v.kind ≠ 1 ∧ v.s.size ≠ 0))
def fitsF (b : BookD) (f : FieldD) (v : ValueD) : Int :=
 if v.kind ≠ kindOf f.kind then 5
 else if oddF v = true then 1
 else if f.kind = 1 then (if v.n = 0 ∨ v.n = 1 then 0 else 6)
 else if f.kind = 2 then (if v.n < -1099511627776 ∨ 1099511627776 < v.n then 2 else 0)
 else if f.kind = 3 then (if plainF v.s = true then 0 else 1)
 else if f.kind = 4 then (if meansF ((findT b f.type).getD .zero) v.n = true then 0 else 6)
 else 0
def hasI (l : List Int) (n : Int) : Bool := l.any fun m => decide (m = n)
def typeOf (b : BookD) (name : ByteArray) : TypeD := (findT b name).getD .zero
def fullF (t : TypeD) (ids : List Int) : Bool := t.fields.all fun f => decide (f.rule ≠ 1) || hasI ids f.id
def placeF (t : TypeD) (last : Option Int) (id : Int) : Int := match fieldOf t id with
 | none => 3
 | some f => match last with
  | none => 0
  | some k => if id < k then 1 else if k = id ∧ f.rule ≠ 3 then 4 else 0
mutual
def typedF (b : BookD) : TypeD → ValueD → Int
 | t, .mk kind n s ids l =>
  if kind ≠ 2 then 5 else if ids.length ≠ l.length ∨ n ≠ 0 ∨ s.size ≠ 0 then 1
  else if typedGo b t none ids l ≠ 0 then typedGo b t none ids l
  else if fullF t ids = true then 0 else 3
def typedGo (b : BookD) : TypeD → Option Int → List Int → List ValueD → Int
 | _, _, _, [] => 0
 | t, last, ids, x :: l => match ids with
  | [] => 0
  | id :: ids =>
   if placeF t last id ≠ 0 then placeF t last id
   else if fitsF b ((fieldOf t id).getD .zero) x ≠ 0 then fitsF b ((fieldOf t id).getD .zero) x
   else if ((fieldOf t id).getD .zero).kind = 5 ∧ typedF b (typeOf b ((fieldOf t id).getD .zero).type) x ≠ 0 then typedF b (typeOf b ((fieldOf t id).getD .zero).type) x
   else typedGo b t (some id) ids l
end
def noneB (b : BookD) (name : ByteArray) : Bool := match findT b name with | none => true | some t => t.enum
def TypedF (b : BookD) (name : ByteArray) (v : ValueD) : Int :=
 if goodF b ≠ 0 then 1 else if noneB b name = true then 3 else if smallF v = false then 7 else typedF b (typeOf b name) v
def leastOfF (b : BookD) (k : Nat) (f : FieldD) : ValueD :=
 if f.kind = 3 then .mk 1 0 ⟨#[]⟩ [] []
 else if f.kind = 4 then .mk 0 (((typeOf b f.type).items.head?.map (·.n)).getD 0) ⟨#[]⟩ [] []
 else if f.kind = 5 then match k with
  | 0 => .zero
  | k + 1 => msgV (((typeOf b f.type).fields.filter fun g => decide (g.rule = 1)).map (·.id)) (((typeOf b f.type).fields.filter fun g => decide (g.rule = 1)).map (leastOfF b k))
 else .zero
def leastTF (b : BookD) (k : Nat) (t : TypeD) : ValueD := msgV ((t.fields.filter fun g => decide (g.rule = 1)).map (·.id)) ((t.fields.filter fun g => decide (g.rule = 1)).map (leastOfF b k))
def partOf (id : Int) (x : ValueD) (inner : List UInt8) : Part := ⟨id, x.kind, x.n, if x.kind = 2 then ⟨inner.toArray⟩ else x.s⟩
mutual
def encV : ValueD → List UInt8 × Int
 | .mk _ _ _ ids l => if (partsGo ids l []).2 ≠ 0 then ([], (partsGo ids l []).2) else encL (partsGo ids l []).1 []
def partsGo : List Int → List ValueD → List Part → List Part × Int
 | _, [], acc => (acc, 0)
 | ids, x :: l, acc => match ids with
  | [] => (acc, 0)
  | id :: ids => if x.kind = 2 ∧ (encV x).2 ≠ 0 then ([], (encV x).2) else partsGo ids l (acc ++ [partOf id x (encV x).1])
end
def EncodeF (b : BookD) (name : ByteArray) (v : ValueD) : List UInt8 × Int := if TypedF b name v ≠ 0 then ([], TypedF b name v) else encV v
def filledGo (b : BookD) (k : Nat) (ids : List Int) (l : List ValueD) (f : FieldD) : List (Int × ValueD) :=
 (if f.rule = 1 ∧ hasI ids f.id = false then [(f.id, leastOfF b k f)] else []) ++ (ids.zip l).filter fun p => decide (p.1 = f.id)
def filledF (b : BookD) (k : Nat) (t : TypeD) (ids : List Int) (l : List ValueD) : ValueD :=
 msgV ((t.fields.flatMap (filledGo b k ids l)).map (·.1)) ((t.fields.flatMap (filledGo b k ids l)).map (·.2))
def bareV (p : Part) : ValueD := .mk p.kind p.n (if p.kind = 1 then p.s else ⟨#[]⟩) [] []
def fallsF (last : Option Int) (id : Int) : Bool := match last with | none => false | some k => decide (id < k)
def decGo (b : BookD) (rec : TypeD → List UInt8 → ValueD × Int) (t : TypeD) : Option Int → List Part → List Int → List ValueD → (List Int × List ValueD) × Int
 | _, [], ids, l => ((ids, l), 0)
 | last, p :: ps, ids, l =>
  if fallsF last p.id = true then (([], []), 1)
  else match fieldOf t p.id with
   | none => decGo b rec t (some p.id) ps ids l
   | some f =>
    if fitsF b f (bareV p) ≠ 0 then (([], []), fitsF b f (bareV p))
    else if f.rule ≠ 3 ∧ hasI ids p.id = true then (([], []), 4)
    else if f.kind = 5 then
     (if (rec (typeOf b f.type) (bytes p.s)).2 ≠ 0 then (([], []), (rec (typeOf b f.type) (bytes p.s)).2)
     else decGo b rec t (some p.id) ps (ids ++ [p.id]) (l ++ [(rec (typeOf b f.type) (bytes p.s)).1]))
    else decGo b rec t (some p.id) ps (ids ++ [p.id]) (l ++ [bareV p])
def decV (b : BookD) : Nat → TypeD → List UInt8 → ValueD × Int
 | 0, _, _ => (.zero, 7)
 | k + 1, t, s =>
  if (decF s).2 ≠ 0 then (.zero, (decF s).2)
  else if (decGo b (decV b k) t none (decF s).1 [] []).2 ≠ 0 then (.zero, (decGo b (decV b k) t none (decF s).1 [] []).2)
  else (filledF b 4 t (decGo b (decV b k) t none (decF s).1 [] []).1.1 (decGo b (decV b k) t none (decF s).1 [] []).1.2, 0)
def DecodeF (b : BookD) (name : ByteArray) (s : List UInt8) : ValueD × Int :=
 if goodF b ≠ 0 then (.zero, 1) else if noneB b name = true then (.zero, 3)
 else if (decV b 24 (typeOf b name) s).2 ≠ 0 then (.zero, (decV b 24 (typeOf b name) s).2)
 else if smallF (decV b 24 (typeOf b name) s).1 = false then (.zero, 7) else ((decV b 24 (typeOf b name) s).1, 0)
def LeastF (b : BookD) (name : ByteArray) : ValueD × Int :=
 if goodF b ≠ 0 then (.zero, 1) else if noneB b name = true then (.zero, 3) else (leastTF b 4 (typeOf b name), 0)
end Go.Proofs.YtfobdbhmfohfnaaGreatDoor
namespace Go.Proofs.YtfobdbhmfohfnaaGreatDoor
theorem splitF_stable : ∀ (k k' : Nat) (l : List UInt8), l.length ≤ k → l.length ≤ k' → splitF k l = splitF k' l
 | 0, k', l, h, _ => by
  obtain rfl : l = [] := List.eq_nil_of_length_eq_zero (by omega)
  cases k' <;> rfl
 | k + 1, k', [], _, _ => by cases k' <;> rfl
 | k + 1, 0, c :: l, _, h => by simp at h
 | k + 1, k' + 1, c :: l, h, h' => by
  have h1 : l.length ≤ k := by simpa using h
  have h2 : l.length ≤ k' := by simpa using h'
  have hd : ∀ p : UInt8 → Bool, (l.dropWhile p).length ≤ l.length := fun p => (List.dropWhile_suffix p).length_le
  rw [splitF, splitF, splitF_stable k k' l h1 h2, splitF_stable k k' (l.dropWhile isLet) (by have := hd isLet; omega) (by have := hd isLet; omega), splitF_stable k k' (l.dropWhile isDig) (by have := hd isDig; omega) (by have := hd isDig; omega)]
def Spl (l : List UInt8) (ws : List ByteArray) : Prop := splitF l.length l = some ws
theorem Spl.nil : Spl [] [] := rfl
theorem Spl.white {c : UInt8} {l : List UInt8} {ws : List ByteArray} (h : isWhite c = true) (hs : Spl l ws) : Spl (c :: l) ws := by
 unfold Spl at *; rw [List.length_cons, splitF, if_pos h]; exact hs
theorem Spl.sign {c : UInt8} {l : List UInt8} {ws : List ByteArray} (h : isWhite c = false) (h2 : isSign c = true) (hs : Spl l ws) : Spl (c :: l) (⟨#[c]⟩ :: ws) := by
 unfold Spl at *; rw [List.length_cons, splitF, if_neg (by simp [h]), if_pos h2, hs]; rfl
def NoHead (p : UInt8 → Bool) (l : List UInt8) : Prop := ∀ c, l.head? = some c → p c = false
theorem take_word {p : UInt8 → Bool} {w l : List UInt8} (ha : ∀ c ∈ w, p c = true) (hl : NoHead p l) : (w ++ l).takeWhile p = w ∧ (w ++ l).dropWhile p = l := by
 rw [List.takeWhile_append_of_pos ha, List.dropWhile_append_of_pos ha]
 cases l with
 | nil => simp
 | cons c l =>
  have := hl c rfl
  simp [List.takeWhile_cons, List.dropWhile_cons, this]
theorem let_class {c : UInt8} (h : isLet c = true) : isWhite c = false ∧ isSign c = false := by
 simp only [isLet, isWhite, isSign, decide_eq_true_eq, decide_eq_false_iff_not] at *
 omega
theorem num_class {c : UInt8} (h : (decide (c.toNat = 45) || isDig c) = true) : isWhite c = false ∧ isSign c = false ∧ isLet c = false := by
 simp only [isLet, isWhite, isSign, isDig, Bool.or_eq_true, decide_eq_true_eq, decide_eq_false_iff_not] at *
 omega
theorem Spl.word {w l : List UInt8} {ws : List ByteArray} (hw : w ≠ []) (ha : ∀ c ∈ w, isLet c = true) (hl : NoHead isLet l) (hs : Spl l ws) : Spl (w ++ l) (⟨w.toArray⟩ :: ws) := by
 cases w with
 | nil => exact absurd rfl hw
 | cons c w =>
  have hc := ha c (by simp)
  obtain ⟨h1, h2⟩ := let_class hc
  obtain ⟨e1, e2⟩ := take_word (w := w) (l := l) (fun x hx => ha x (by simp [hx])) hl
  unfold Spl at *
  rw [List.cons_append, List.length_cons, splitF, if_neg (by simp [h1]), if_neg (by simp [h2]), if_pos hc, e1, e2, splitF_stable _ l.length l (by simp) (Nat.le_refl _), hs]
  rfl
theorem Spl.num {w l : List UInt8} {ws : List ByteArray} {c : UInt8} (hc : (decide (c.toNat = 45) || isDig c) = true) (ha : ∀ c ∈ w, isDig c = true) (hl : NoHead isDig l) (hs : Spl l ws) : Spl (c :: w ++ l) (⟨(c :: w).toArray⟩ :: ws) := by
 obtain ⟨h1, h2, h3⟩ := num_class hc
 obtain ⟨e1, e2⟩ := take_word (w := w) (l := l) ha hl
 unfold Spl at *
 rw [List.cons_append, List.length_cons, splitF, if_neg (by simp [h1]), if_neg (by simp [h2]), if_neg (by simp [h3]), if_pos hc, e1, e2, splitF_stable _ l.length l (by simp) (Nat.le_refl _), hs]
 rfl
theorem decDigits_dig : ∀ (u : Nat), (∀ c ∈ Lib.decDigits u, isDig c = true) ∧ Lib.decDigits u ≠ [] := by
 intro u
 induction u using Nat.strongRecOn with
 | ind u ih =>
  rw [Lib.decDigits]
  split
  ·rename_i h
   refine ⟨fun c hc => ?_, by simp⟩
   simp only [List.mem_singleton] at hc
   subst hc
   simp only [isDig, decide_eq_true_eq, UInt8.toNat_ofNat']
   omega
  ·rename_i h
   refine ⟨fun c hc => ?_, by simp⟩
   rcases List.mem_append.1 hc with hc | hc
   ·exact (ih (u / 10) (by omega)).1 c hc
   ·simp only [List.mem_singleton] at hc
    subst hc
    simp only [isDig, decide_eq_true_eq, UInt8.toNat_ofNat']
    omega
theorem itoa_form (n : Int) : ∃ c w, Lib.itoa n = c :: w ∧ (decide (c.toNat = 45) || isDig c) = true ∧ ∀ x ∈ w, isDig x = true := by
 unfold Lib.itoa
 split
 ·exact ⟨45, _, rfl, rfl, fun x hx => (decDigits_dig _).1 x hx⟩
 ·obtain ⟨ha, hn⟩ := decDigits_dig n.toNat
  cases h : Lib.decDigits n.toNat with
  | nil => exact absurd h hn
  | cons c w =>
   rw [h] at ha
   exact ⟨c, w, rfl, by rw [ha c (by simp), Bool.or_true], fun x hx => ha x (by simp [hx])⟩
theorem decFrom_append (acc : Nat) : ∀ (l m : List UInt8), Lib.decFrom acc (l ++ m) = (Lib.decFrom acc l).bind (Lib.decFrom · m) := by
 intro l
 induction l generalizing acc with
 | nil => intro m; rfl
 | cons c l ih =>
  intro m
  simp only [List.cons_append, Lib.decFrom]
  cases Lib.digitVal c with
  | none => rfl
  | some d => exact ih _ m
theorem digitVal_of (d : Nat) (h : d < 10) : Lib.digitVal (UInt8.ofNat (48 + d)) = some d := by
 unfold Lib.digitVal
 have e : (UInt8.ofNat (48 + d)).toNat = 48 + d := by simp only [UInt8.toNat_ofNat']; omega
 rw [e, if_pos (by omega)]
 congr 1; omega
theorem decFrom_digits (u : Nat) : Lib.decFrom 0 (Lib.decDigits u) = some u := by
 induction u using Nat.strongRecOn with
 | ind u ih =>
  rw [Lib.decDigits]
  split
  ·rename_i h
   simp only [Lib.decFrom, digitVal_of u h]
   simp
  ·rename_i h
   rw [decFrom_append, ih (u / 10) (by omega)]
   simp only [Option.bind_some, Lib.decFrom, digitVal_of (u % 10) (Nat.mod_lt _ (by decide))]
   simp only [Option.some.injEq]
   omega
theorem decDigits_len : ∀ (k u : Nat), u < 10 ^ (k + 1) → (Lib.decDigits u).length ≤ k + 1
 | 0, u, h => by rw [Lib.decDigits, dif_pos (by simpa using h)]; simp
 | k + 1, u, h => by
  rw [Lib.decDigits]
  split
  ·simp
  ·have := decDigits_len k (u / 10) (by rw [Nat.pow_succ] at h; omega)
   simp only [List.length_append, List.length_singleton]
   omega
theorem itoa_len {n : Int} (h1 : -1099511627776 ≤ n) (h2 : n ≤ 1099511627776) : (Lib.itoa n).length ≤ 14 := by
 unfold Lib.itoa
 split
 ·have := decDigits_len 12 n.natAbs (by omega)
  simp only [List.length_cons]; omega
 ·have := decDigits_len 12 n.toNat (by omega)
  omega
theorem atoi_itoa (n : Int) : Lib.atoi (Lib.itoa n) = some n := by
 unfold Lib.itoa
 split
 ·rename_i h
  obtain ⟨_, hn⟩ := decDigits_dig n.natAbs
  have hd := decFrom_digits n.natAbs
  simp only [Lib.atoi, Lib.decNat]
  cases hq : Lib.decDigits n.natAbs with
  | nil => exact absurd hq hn
  | cons c w =>
   rw [hq] at hd
   simp [hd]
   omega
 ·rename_i h
  obtain ⟨ha, hn⟩ := decDigits_dig n.toNat
  have hd := decFrom_digits n.toNat
  cases hq : Lib.decDigits n.toNat with
  | nil => exact absurd hq hn
  | cons c w =>
   rw [hq] at hd ha
   have hc := ha c (by simp)
   simp only [isDig, decide_eq_true_eq] at hc
   have h45 : c.toNat ≠ 45 := by omega
   have h43 : c.toNat ≠ 43 := by omega
   have b45 : (c == 45) = false := by
    cases hb : c == 45 with
    | false => rfl
    | true => exact absurd (congrArg UInt8.toNat (eq_of_beq hb)) h45
   have b43 : (c == 43) = false := by
    cases hb : c == 43 with
    | false => rfl
    | true => exact absurd (congrArg UInt8.toNat (eq_of_beq hb)) h43
   simp only [Lib.atoi, Lib.decNat, hd, b45, b43, Bool.false_eq_true, if_false, List.isEmpty_cons, Option.map_some, Option.some.injEq]
   omega
end Go.Proofs.YtfobdbhmfohfnaaGreatDoor
