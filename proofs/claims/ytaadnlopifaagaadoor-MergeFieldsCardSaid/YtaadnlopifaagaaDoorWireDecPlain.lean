/- Bytes read as parts, plainly. -/
import Derived.Test.YtaadnlopifaagaaDoorWirePlain
namespace Go.Proofs.YtaadnlopifaagaaDoor

/-- A number that stands in front: what it is, how many bytes it has, whether it is bad. -/
def getGo (s : List UInt8) : Nat → Nat → Nat → Nat × Nat × Bool
  | 0, _, _ => (0, 0, true)
  | f + 1, i, n =>
    if h : i < s.length then
      if s[i].toNat < 128 then (n + s[i].toNat * 128 ^ i, i + 1, decide (s[i].toNat = 0 ∧ 0 < i))
      else getGo s f (i + 1) (n + (s[i].toNat % 128) * 128 ^ i)
    else (0, 0, true)
def getF (s : List UInt8) : Nat × Nat × Bool := getGo s 6 0 0

def zag (n : Nat) : Int := if n % 2 = 0 then (n / 2 : Nat) else -(((n + 1) / 2 : Nat) : Int)

/-- A part that stands in front, and what stands behind it. -/
def stepD (s : List UInt8) : Option (Part × List UInt8) :=
  let (key, m1, b1) := getF s
  let s1 := s.drop m1
  let (n, m2, b2) := getF s1
  let s2 := s1.drop m2
  if b1 ∨ b2 then none
  else if key % 4 = 0 then
    let p : Part := ⟨key / 4, 0, zag n, ⟨#[]⟩⟩
    if goodP p then some (p, s2) else none
  else if n ≤ s2.length then
    let p : Part := ⟨key / 4, key % 4, 0, ⟨(s2.take n).toArray⟩⟩
    if goodP p then some (p, s2.drop n) else none
  else none

def decL : Nat → List UInt8 → List Part → List Part × Int
  | 0, _, acc => (acc, 0)
  | f + 1, s, acc => if s = [] then (acc, 0) else match stepD s with
    | none => ([], 1)
    | some (p, s') => decL f s' (acc ++ [p])
def decF (s : List UInt8) : List Part × Int := if 20000 < s.length then ([], 7) else decL s.length s []

theorem getGo_hit {s : List UInt8} {k n : Nat} (h6 : k < 6) (h : k < s.length) (hc : s[k].toNat < 128) : getGo s (6 - k) k n = (n + s[k].toNat * 128 ^ k, k + 1, decide (s[k].toNat = 0 ∧ 0 < k)) := by
  rw [show 6 - k = (5 - k) + 1 from by omega, getGo, dif_pos h, if_pos hc]
theorem getGo_on {s : List UInt8} {k n : Nat} (h6 : k < 6) (h : k < s.length) (hc : ¬ s[k].toNat < 128) : getGo s (6 - k) k n = getGo s (6 - (k + 1)) (k + 1) (n + (s[k].toNat % 128) * 128 ^ k) := by
  rw [show 6 - k = (5 - k) + 1 from by omega, getGo, dif_pos h, if_neg hc, show 6 - (k + 1) = 5 - k from by omega]
theorem getGo_end {s : List UInt8} {k n : Nat} (hk : k ≤ 6) (h : ¬ (k < 6 ∧ k < s.length)) : getGo s (6 - k) k n = (0, 0, true) := by
  by_cases h6 : k < 6
  · rw [show 6 - k = (5 - k) + 1 from by omega, getGo, dif_neg (by omega)]
  · rw [show 6 - k = 0 from by omega, getGo]
theorem getGo_lt (s : List UInt8) : ∀ (f i n : Nat), n < 128 ^ i → (getGo s f i n).1 < 128 ^ (i + f)
  | 0, i, n, h => by simp [getGo]; exact Nat.pow_pos (by decide)
  | f + 1, i, n, h => by
    have hp : 0 < 128 ^ i := Nat.pow_pos (by decide)
    have hm : 128 ^ (i + 1) = 128 * 128 ^ i := by rw [Nat.pow_succ, Nat.mul_comm]
    have hle : 128 ^ (i + 1) ≤ 128 ^ (i + (f + 1)) := Nat.pow_le_pow_right (by decide) (by omega)
    rw [getGo]
    split
    · split
      · rename_i h1 h2
        have : s[i].toNat * 128 ^ i ≤ 127 * 128 ^ i := Nat.mul_le_mul_right _ (by omega)
        simp only
        omega
      · rename_i h1 h2
        have h3 : (s[i].toNat % 128) * 128 ^ i ≤ 127 * 128 ^ i := Nat.mul_le_mul_right _ (by omega)
        have := getGo_lt s f (i + 1) (n + (s[i].toNat % 128) * 128 ^ i) (by omega)
        rw [show i + (f + 1) = i + 1 + f from by omega]
        exact this
    · exact Nat.pow_pos (by decide)
theorem getF_lt (s : List UInt8) : (getF s).1 < 4398046511104 := getGo_lt s 6 0 0 (by decide)
theorem getGo_len (s : List UInt8) : ∀ (f i n : Nat), (getGo s f i n).2.1 ≤ s.length
  | 0, i, n => by simp [getGo]
  | f + 1, i, n => by
    rw [getGo]
    split
    · split
      · simp only; omega
      · exact getGo_len s f _ _
    · simp
theorem getF_len (s : List UInt8) : (getF s).2.1 ≤ s.length := getGo_len s 6 0 0
theorem getGo_bad (s : List UInt8) : ∀ (f i n : Nat), (getGo s f i n).2.2 = false → 0 < (getGo s f i n).2.1
  | 0, i, n => by simp [getGo]
  | f + 1, i, n => by
    rw [getGo]
    split
    · split
      · intro _; simp only; omega
      · exact getGo_bad s f _ _
    · simp
theorem getF_bad (s : List UInt8) : (getF s).2.2 = false → 0 < (getF s).2.1 := getGo_bad s 6 0 0
theorem stepD_eq {s : List UInt8} {key m1 n m2 : Nat} {b1 b2 : Bool} (h1 : getF s = (key, m1, b1)) (h2 : getF (s.drop m1) = (n, m2, b2)) :
    stepD s = if b1 = true ∨ b2 = true then none
      else if key % 4 = 0 then (if goodP ⟨key / 4, 0, zag n, ⟨#[]⟩⟩ then some (⟨key / 4, 0, zag n, ⟨#[]⟩⟩, (s.drop m1).drop m2) else none)
      else if n ≤ ((s.drop m1).drop m2).length then
        (if goodP ⟨key / 4, key % 4, 0, ⟨(((s.drop m1).drop m2).take n).toArray⟩⟩ then some (⟨key / 4, key % 4, 0, ⟨(((s.drop m1).drop m2).take n).toArray⟩⟩, ((s.drop m1).drop m2).drop n) else none)
      else none := by
  unfold stepD
  rw [h1]
  simp only
  rw [h2]
theorem zag_even {n : Nat} (h : n % 2 = 0) : zag n = (n : Int) / 2 := by unfold zag; rw [if_pos h]; omega
theorem zag_odd {n : Nat} (h : ¬ n % 2 = 0) : zag n = -((n : Int) / 2) - 1 := by unfold zag; rw [if_neg h]; omega
theorem stepD_len {s s' : List UInt8} {p : Part} (h : stepD s = some (p, s')) : s'.length < s.length := by
  unfold stepD at h
  have h1 := getF_bad s
  have h2 := getF_len s
  revert h
  generalize getF s = r1 at *
  obtain ⟨key, m1, b1⟩ := r1
  simp only at *
  generalize getF (s.drop m1) = r2
  obtain ⟨n, m2, b2⟩ := r2
  simp only
  intro h
  by_cases hb : b1 = true ∨ b2 = true
  · rw [if_pos hb] at h; cases h
  · rw [if_neg hb] at h
    have hb1 : b1 = false := by cases b1 <;> simp_all
    have := h1 hb1
    split at h
    · split at h
      · injection h with h; injection h with _ h; subst h; simp; omega
      · cases h
    · split at h
      · split at h
        · injection h with h; injection h with _ h; subst h; simp; omega
        · cases h
      · cases h
theorem decL_nil (f : Nat) (acc : List Part) : decL f [] acc = (acc, 0) := by cases f <;> simp [decL]
theorem decL_any : ∀ (f g : Nat) (s : List UInt8) (acc : List Part), s.length ≤ f → s.length ≤ g → decL f s acc = decL g s acc := by
  intro f
  induction f with
  | zero =>
    intro g s acc h _
    have : s = [] := List.eq_nil_of_length_eq_zero (by omega)
    subst this; rw [decL_nil, decL_nil]
  | succ f ih =>
    intro g s acc h h'
    by_cases hs : s = []
    · subst hs; rw [decL_nil, decL_nil]
    · obtain ⟨g', rfl⟩ : ∃ g', g = g' + 1 := ⟨g - 1, by have := List.length_pos_iff.2 hs; omega⟩
      rw [decL, decL, if_neg hs, if_neg hs]
      cases hst : stepD s with
      | none => rfl
      | some r =>
        obtain ⟨p, s'⟩ := r
        have := stepD_len hst
        exact ih g' s' _ (by omega) (by omega)
/-- One part on. -/
theorem decL_on {s s' : List UInt8} {p : Part} {acc : List Part} (hs : s ≠ []) (h : stepD s = some (p, s')) : decL s.length s acc = decL s'.length s' (acc ++ [p]) := by
  obtain ⟨g, hg⟩ : ∃ g, s.length = g + 1 := ⟨s.length - 1, by have := List.length_pos_iff.2 hs; omega⟩
  rw [hg, decL, if_neg hs, h]
  have := stepD_len h
  exact decL_any _ _ _ _ (by omega) (by omega)
theorem decL_stop {s : List UInt8} {acc : List Part} (hs : s ≠ []) (h : stepD s = none) : decL s.length s acc = ([], 1) := by
  obtain ⟨g, hg⟩ : ∃ g, s.length = g + 1 := ⟨s.length - 1, by have := List.length_pos_iff.2 hs; omega⟩
  rw [hg, decL, if_neg hs, h]
end Go.Proofs.YtaadnlopifaagaaDoor
