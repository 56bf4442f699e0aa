/- Several texts of walks and laws in one file; what each proves stands at its head. -/
import Derived.WalkKit
import Derived.Test.YtfobdbhmfohfnaaGreatDoorBase
namespace Go.Proofs.YtfobdbhmfohfnaaGreatDoor
open Go.RowKit
theorem or_key (a b : Int) (h1 : 0 ≤ a) (h2 : a ≤ 30) (h3 : 0 ≤ b) (h4 : b ≤ 3) : bits .or .u64 (a * 4) b = 4 * a + b := by
 have h : ∀ i : Fin 31, ∀ j : Fin 4, bits .or .u64 ((i.val : Int) * 4) (j.val : Int) = 4 * (i.val : Int) + (j.val : Int) := by decide +kernel
 have := h ⟨a.toNat, by omega⟩ ⟨b.toNat, by omega⟩
 simp only at this
 rwa [Int.toNat_of_nonneg h1, Int.toNat_of_nonneg h3] at this
theorem xor_zig (n : Int) (h1 : -1099511627776 ≤ n) (h2 : n ≤ 1099511627776) :
  IntKind.u64.wrap (bits .xor .i64 (n * 2) (n / 9223372036854775808)) = if n < 0 then -2 * n - 1 else 2 * n := by
 by_cases h : n < 0
 ·have hd : n / 9223372036854775808 = -1 := by omega
  rw [hd, if_pos h]
  show IntKind.u64.wrap (IntKind.i64.wrap ((BitVec.ofInt 64 (n * 2) ^^^ BitVec.ofInt 64 (-1)).toNat : Int)) = _
  have e1 : BitVec.ofInt 64 (-1) = BitVec.allOnes 64 := by decide
  rw [e1, BitVec.xor_allOnes, BitVec.toNat_not, BitVec.toNat_ofInt]
  have e2 : (((n * 2) % ((2 ^ 64 : Nat) : Int)).toNat : Int) = n * 2 + 18446744073709551616 := by omega
  simp only [IntKind.wrap_i64, IntKind.wrap_u64]
  omega
 ·have hd : n / 9223372036854775808 = 0 := by omega
  rw [hd, if_neg h]
  show IntKind.u64.wrap (IntKind.i64.wrap ((BitVec.ofInt 64 (n * 2) ^^^ BitVec.ofInt 64 0).toNat : Int)) = _
  have e1 : BitVec.ofInt 64 0 = 0#64 := by decide
  rw [e1, BitVec.xor_zero, BitVec.toNat_ofInt]
  have e2 : (((n * 2) % ((2 ^ 64 : Nat) : Int)).toNat : Int) = n * 2 := by omega
  simp only [IntKind.wrap_i64, IntKind.wrap_u64]
  omega
theorem and127 (c : Nat) (hc : c < 256) : bits .and .u8 (c : Int) 127 = ((c % 128 : Nat) : Int) := by
 have h : ∀ k : Fin 256, bits .and .u8 (k.val : Int) 127 = ((k.val % 128 : Nat) : Int) := by decide +kernel
 exact h ⟨c, hc⟩
theorem or_sev (n c k : Nat) (hk : k < 6) (hn : n < 128 ^ k) (hc : c < 256) :
  bits .or .u64 (n : Int) (IntKind.u64.wrap (IntKind.u64.wrap (bits .and .u8 (c : Int) 127) * 2 ^ (7 * k))) = ((n + (c % 128) * 128 ^ k : Nat) : Int) := by
 have hp : (2 : Nat) ^ (7 * k) = 128 ^ k := by rw [Nat.pow_mul]
 have hp6 : 128 ^ k ≤ 34359738368 := by
  have : 128 ^ k ≤ 128 ^ 5 := Nat.pow_le_pow_right (by decide) (by omega)
  simpa using this
 have hm : c % 128 * 128 ^ k ≤ 127 * 34359738368 := Nat.mul_le_mul (by omega) hp6
 have e1 : IntKind.u64.wrap (bits .and .u8 (c : Int) 127) = ((c % 128 : Nat) : Int) := by
  rw [and127 c hc, IntKind.wrap_u64]; omega
 have e2 : ((c % 128 : Nat) : Int) * 2 ^ (7 * k) = ((c % 128 * 128 ^ k : Nat) : Int) := by
  rw [← hp]; simp
 have e3 : IntKind.u64.wrap (((c % 128 * 128 ^ k : Nat) : Int)) = ((c % 128 * 128 ^ k : Nat) : Int) := by
  rw [IntKind.wrap_u64]; omega
 rw [e1, e2, e3, u64_or_nat n _ (by omega) (by omega), Nat.or_comm, nat_join (7 * k) _ _ (by rw [← hp]; simp) (by rw [hp]; exact hn), Nat.add_comm]
theorem and3 (n : Nat) (h : n < 18446744073709551616) : bits .and .u64 (n : Int) 3 = ((n % 4 : Nat) : Int) := by
 have := u64_and_nat n 3 h (by decide)
 rw [show ((3 : Nat) : Int) = 3 from rfl] at this
 rw [this, show (3 : Nat) = 2 ^ 2 - 1 from rfl, Nat.and_two_pow_sub_one_eq_mod]
theorem and1 (n : Nat) (h : n < 18446744073709551616) : bits .and .u64 (n : Int) 1 = ((n % 2 : Nat) : Int) := by
 have := u64_and_nat n 1 h (by decide)
 rw [show ((1 : Nat) : Int) = 1 from rfl] at this
 rw [this, show (1 : Nat) = 2 ^ 1 - 1 from rfl, Nat.and_two_pow_sub_one_eq_mod]
theorem xor_minus (a : Nat) (h : a < 4611686018427387904) : bits .xor .i64 (a : Int) (-1) = -(a : Int) - 1 := by
 show IntKind.i64.wrap ((BitVec.ofInt 64 (a : Int) ^^^ BitVec.ofInt 64 (-1)).toNat : Int) = _
 have e1 : BitVec.ofInt 64 (-1) = BitVec.allOnes 64 := by decide
 rw [e1, BitVec.xor_allOnes, BitVec.toNat_not, BitVec.toNat_ofInt]
 have e2 : (((a : Int) % ((2 ^ 64 : Nat) : Int)).toNat : Int) = a := by omega
 simp only [IntKind.wrap_i64]
 omega
theorem xor_zero (a : Nat) (h : a < 4611686018427387904) : bits .xor .i64 (a : Int) 0 = (a : Int) := by
 show IntKind.i64.wrap ((BitVec.ofInt 64 (a : Int) ^^^ BitVec.ofInt 64 0).toNat : Int) = _
 have e1 : BitVec.ofInt 64 0 = 0#64 := by decide
 rw [e1, BitVec.xor_zero, BitVec.toNat_ofInt]
 have e2 : (((a : Int) % ((2 ^ 64 : Nat) : Int)).toNat : Int) = a := by omega
 simp only [IntKind.wrap_i64]
 omega
theorem xor_zero' (n : Nat) (h : n < 4611686018427387904) : bits .xor .i64 ((n : Int) / 2) 0 = (n : Int) / 2 := by
 have := xor_zero (n / 2) (by omega)
 rwa [show ((n / 2 : Nat) : Int) = (n : Int) / 2 from by omega] at this
theorem xor_minus' (n : Nat) (h : n < 4611686018427387904) : bits .xor .i64 ((n : Int) / 2) (-1) = -((n : Int) / 2) - 1 := by
 have := xor_minus (n / 2) (by omega)
 rwa [show ((n / 2 : Nat) : Int) = (n : Int) / 2 from by omega] at this
end Go.Proofs.YtfobdbhmfohfnaaGreatDoor
namespace Go.Proofs.YtfobdbhmfohfnaaGreatDoor
structure Part where
 id : Int
 kind : Int
 n : Int
 s : ByteArray
deriving DecidableEq
def goodP (p : Part) : Bool :=
 decide (1 ≤ p.id ∧ p.id ≤ 30 ∧ -1099511627776 ≤ p.n ∧ p.n ≤ 1099511627776 ∧ p.s.size ≤ 20000) &&
  (decide (p.kind = 0 ∧ p.s.size = 0) || decide ((p.kind = 1 ∨ p.kind = 2) ∧ p.n = 0))
def sev (n : Nat) : List UInt8 :=
 if h : n < 128 then [UInt8.ofNat n] else UInt8.ofNat (n % 128 + 128) :: sev (n / 128)
 termination_by n
 decreasing_by omega
def zig (n : Int) : Nat := if n < 0 then (-2 * n - 1).toNat else (2 * n).toNat
def encP (p : Part) : List UInt8 :=
 sev (4 * p.id + p.kind).toNat ++ (if p.kind = 0 then sev (zig p.n) else sev p.s.size ++ bytes p.s)
def encL : List Part → List UInt8 → List UInt8 × Int
 | [], acc => (acc, 0)
 | p :: l, acc => if goodP p then (if 20000 < (acc ++ encP p).length then ([], 7) else encL l (acc ++ encP p)) else ([], 1)
theorem sev_lt {n : Nat} (h : n < 128) : sev n = [UInt8.ofNat n] := by rw [sev, dif_pos h]
theorem sev_ge {n : Nat} (h : ¬ n < 128) : sev n = UInt8.ofNat (n % 128 + 128) :: sev (n / 128) := by rw [sev, dif_neg h]
theorem sev_len (k : Nat) : ∀ n, n < 128 ^ (k + 1) → (sev n).length ≤ k + 1 := by
 induction k with
 | zero => intro n h; rw [sev_lt (by simpa using h)]; simp
 | succ k ih =>
  intro n h
  by_cases hn : n < 128
  ·rw [sev_lt hn]; simp
  ·rw [sev_ge hn]
   have : n / 128 < 128 ^ (k + 1) := by rw [Nat.pow_succ] at h; omega
   have := ih _ this
   simp; omega
theorem sev_len10 {n : Nat} (h : n < 18446744073709551616) : (sev n).length ≤ 10 :=
 sev_len 9 n (Nat.lt_of_lt_of_le h (by decide))
theorem zig_eq (n : Int) : (if n < 0 then -2 * n - 1 else 2 * n).toNat = zig n := by unfold zig; split <;> rfl
theorem zig_neg {n : Int} (h : n < 0) : zig n = (-2 * n - 1).toNat := by unfold zig; rw [if_pos h]
theorem zig_nn {n : Int} (h : 0 ≤ n) : zig n = (2 * n).toNat := by unfold zig; rw [if_neg (by omega)]
theorem sev_len6 {n : Nat} (h : n < 4398046511104) : (sev n).length ≤ 6 := sev_len 5 n (Nat.lt_of_lt_of_le h (by decide))
theorem encP_len (p : Part) (h : goodP p = true) : (encP p).length ≤ 20012 := by
 simp [goodP] at h
 have h1 : (sev (4 * p.id + p.kind).toNat).length ≤ 6 := sev_len6 (by omega)
 have h2 : (sev (zig p.n)).length ≤ 6 := sev_len6 (by unfold zig; split <;> omega)
 have h3 : (sev p.s.size).length ≤ 6 := sev_len6 (by omega)
 have h4 : (bytes p.s).length = p.s.size := rfl
 unfold encP
 rw [List.length_append]
 split
 ·omega
 ·rw [List.length_append]; omega
end Go.Proofs.YtfobdbhmfohfnaaGreatDoor
namespace Go.Proofs.YtfobdbhmfohfnaaGreatDoor
def getGo (s : List UInt8) : Nat → Nat → Nat → Nat × Nat × Bool
 | 0, _, _ => (0, 0, true)
 | f + 1, i, n =>
  if h : i < s.length then
   if s[i].toNat < 128 then (n + s[i].toNat * 128 ^ i, i + 1, decide (s[i].toNat = 0 ∧ 0 < i))
   else getGo s f (i + 1) (n + (s[i].toNat % 128) * 128 ^ i)
  else (0, 0, true)
def getF (s : List UInt8) : Nat × Nat × Bool := getGo s 6 0 0
def zag (n : Nat) : Int := if n % 2 = 0 then (n / 2 : Nat) else -(((n + 1) / 2 : Nat) : Int)
def stepD (s : List UInt8) : Option (Part × List UInt8) :=
 let (key, m1, b1) := getF s
 let s1 := s.drop m1
 let (n, m2, b2) := getF s1
 let s2 := s1.drop m2
 if b1 ∨ b2 then none
 else if key % 4 = 0 then
  let p : Part := ⟨key / 4, 0, zag n, ⟨#[]⟩⟩
  if goodP p then some (p, s2) else none
 else if n ≤ s2.length then
  let p : Part := ⟨key / 4, key % 4, 0, ⟨(s2.take n).toArray⟩⟩
  if goodP p then some (p, s2.drop n) else none
 else none
def decL : Nat → List UInt8 → List Part → List Part × Int
 | 0, _, acc => (acc, 0)
 | f + 1, s, acc => if s = [] then (acc, 0) else match stepD s with
  | none => ([], 1)
  | some (p, s') => decL f s' (acc ++ [p])
def decF (s : List UInt8) : List Part × Int := if 20000 < s.length then ([], 7) else decL s.length s []
theorem getGo_hit {s : List UInt8} {k n : Nat} (h6 : k < 6) (h : k < s.length) (hc : s[k].toNat < 128) : getGo s (6 - k) k n = (n + s[k].toNat * 128 ^ k, k + 1, decide (s[k].toNat = 0 ∧ 0 < k)) := by
 rw [show 6 - k = (5 - k) + 1 from by omega, getGo, dif_pos h, if_pos hc]
theorem getGo_on {s : List UInt8} {k n : Nat} (h6 : k < 6) (h : k < s.length) (hc : ¬ s[k].toNat < 128) : getGo s (6 - k) k n = getGo s (6 - (k + 1)) (k + 1) (n + (s[k].toNat % 128) * 128 ^ k) := by
 rw [show 6 - k = (5 - k) + 1 from by omega, getGo, dif_pos h, if_neg hc, show 6 - (k + 1) = 5 - k from by omega]
theorem getGo_end {s : List UInt8} {k n : Nat} (hk : k ≤ 6) (h : ¬ (k < 6 ∧ k < s.length)) : getGo s (6 - k) k n = (0, 0, true) := by
 by_cases h6 : k < 6
 ·rw [show 6 - k = (5 - k) + 1 from by omega, getGo, dif_neg (by omega)]
 ·rw [show 6 - k = 0 from by omega, getGo]
theorem getGo_lt (s : List UInt8) : ∀ (f i n : Nat), n < 128 ^ i → (getGo s f i n).1 < 128 ^ (i + f)
 | 0, i, n, h => by simp [getGo]; exact Nat.pow_pos (by decide)
 | f + 1, i, n, h => by
  have hp : 0 < 128 ^ i := Nat.pow_pos (by decide)
  have hm : 128 ^ (i + 1) = 128 * 128 ^ i := by rw [Nat.pow_succ, Nat.mul_comm]
  have hle : 128 ^ (i + 1) ≤ 128 ^ (i + (f + 1)) := Nat.pow_le_pow_right (by decide) (by omega)
  rw [getGo]
  split
  ·split
   ·rename_i h1 h2
    have : s[i].toNat * 128 ^ i ≤ 127 * 128 ^ i := Nat.mul_le_mul_right _ (by omega)
    simp only
    omega
   ·rename_i h1 h2
    have h3 : (s[i].toNat % 128) * 128 ^ i ≤ 127 * 128 ^ i := Nat.mul_le_mul_right _ (by omega)
    have := getGo_lt s f (i + 1) (n + (s[i].toNat % 128) * 128 ^ i) (by omega)
    rw [show i + (f + 1) = i + 1 + f from by omega]
    exact this
  ·exact Nat.pow_pos (by decide)
theorem getF_lt (s : List UInt8) : (getF s).1 < 4398046511104 := getGo_lt s 6 0 0 (by decide)
theorem getGo_len (s : List UInt8) : ∀ (f i n : Nat), (getGo s f i n).2.1 ≤ s.length
 | 0, i, n => by simp [getGo]
 | f + 1, i, n => by
  rw [getGo]
  split
  ·split
   ·simp only; omega
   ·exact getGo_len s f _ _
  ·simp
theorem getF_len (s : List UInt8) : (getF s).2.1 ≤ s.length := getGo_len s 6 0 0
theorem getGo_bad (s : List UInt8) : ∀ (f i n : Nat), (getGo s f i n).2.2 = false → 0 < (getGo s f i n).2.1
 | 0, i, n => by simp [getGo]
 | f + 1, i, n => by
  rw [getGo]
  split
  ·split
   ·intro _; simp only; omega
   ·exact getGo_bad s f _ _
  ·simp
theorem getF_bad (s : List UInt8) : (getF s).2.2 = false → 0 < (getF s).2.1 := getGo_bad s 6 0 0
theorem stepD_eq {s : List UInt8} {key m1 n m2 : Nat} {b1 b2 : Bool} (h1 : getF s = (key, m1, b1)) (h2 : getF (s.drop m1) = (n, m2, b2)) :
  stepD s = if b1 = true ∨ b2 = true then none
   else if key % 4 = 0 then (if goodP ⟨key / 4, 0, zag n, ⟨#[]⟩⟩ then some (⟨key / 4, 0, zag n, ⟨#[]⟩⟩, (s.drop m1).drop m2) else none)
   else if n ≤ ((s.drop m1).drop m2).length then
    (if goodP ⟨key / 4, key % 4, 0, ⟨(((s.drop m1).drop m2).take n).toArray⟩⟩ then some (⟨key / 4, key % 4, 0, ⟨(((s.drop m1).drop m2).take n).toArray⟩⟩, ((s.drop m1).drop m2).drop n) else none)
   else none := by
 unfold stepD
 rw [h1]
 simp only
 rw [h2]
theorem zag_even {n : Nat} (h : n % 2 = 0) : zag n = (n : Int) / 2 := by unfold zag; rw [if_pos h]; omega
theorem zag_odd {n : Nat} (h : ¬ n % 2 = 0) : zag n = -((n : Int) / 2) - 1 := by unfold zag; rw [if_neg h]; omega
theorem stepD_len {s s' : List UInt8} {p : Part} (h : stepD s = some (p, s')) : s'.length < s.length := by
 unfold stepD at h
 have h1 := getF_bad s
 have h2 := getF_len s
 revert h
 generalize getF s = r1 at *
 obtain ⟨key, m1, b1⟩ := r1
 simp only at *
 generalize getF (s.drop m1) = r2
 obtain ⟨n, m2, b2⟩ := r2
 simp only
 intro h
 by_cases hb : b1 = true ∨ b2 = true
 ·rw [if_pos hb] at h; cases h
 ·rw [if_neg hb] at h
  have hb1 : b1 = false := by cases b1 <;> simp_all
  have := h1 hb1
  split at h
  ·split at h
   ·injection h with h; injection h with _ h; subst h; simp; omega
   ·cases h
  ·split at h
   ·split at h
    ·injection h with h; injection h with _ h; subst h; simp; omega
    ·cases h
   ·cases h
theorem decL_nil (f : Nat) (acc : List Part) : decL f [] acc = (acc, 0) := by cases f <;> simp [decL]
theorem decL_any : ∀ (f g : Nat) (s : List UInt8) (acc : List Part), s.length ≤ f → s.length ≤ g → decL f s acc = decL g s acc := by
 intro f
 induction f with
 | zero =>
  intro g s acc h _
  have : s = [] := List.eq_nil_of_length_eq_zero (by omega)
  subst this; rw [decL_nil, decL_nil]
 | succ f ih =>
  intro g s acc h h'
  by_cases hs : s = []
  ·subst hs; rw [decL_nil, decL_nil]
  ·obtain ⟨g', rfl⟩ : ∃ g', g = g' + 1 := ⟨g - 1, by have := List.length_pos_iff.2 hs; omega⟩
   rw [decL, decL, if_neg hs, if_neg hs]
   cases hst : stepD s with
   | none => rfl
   | some r =>
    obtain ⟨p, s'⟩ := r
    have := stepD_len hst
    exact ih g' s' _ (by omega) (by omega)
theorem decL_on {s s' : List UInt8} {p : Part} {acc : List Part} (hs : s ≠ []) (h : stepD s = some (p, s')) : decL s.length s acc = decL s'.length s' (acc ++ [p]) := by
 obtain ⟨g, hg⟩ : ∃ g, s.length = g + 1 := ⟨s.length - 1, by have := List.length_pos_iff.2 hs; omega⟩
 rw [hg, decL, if_neg hs, h]
 have := stepD_len h
 exact decL_any _ _ _ _ (by omega) (by omega)
theorem decL_stop {s : List UInt8} {acc : List Part} (hs : s ≠ []) (h : stepD s = none) : decL s.length s acc = ([], 1) := by
 obtain ⟨g, hg⟩ : ∃ g, s.length = g + 1 := ⟨s.length - 1, by have := List.length_pos_iff.2 hs; omega⟩
 rw [hg, decL, if_neg hs, h]
end Go.Proofs.YtfobdbhmfohfnaaGreatDoor
namespace Go.Proofs.YtfobdbhmfohfnaaGreatDoor
theorem u8_back (c : UInt8) (h : ¬ c.toNat < 128) : UInt8.ofNat (c.toNat % 128 + 128) = c := by
 have := c.toNat_lt
 apply UInt8.toNat_inj.1
 rw [UInt8.toNat_ofNat']
 omega
theorem sev_ne (n : Nat) : sev n ≠ [] := by
 by_cases h : n < 128
 ·rw [sev_lt h]; simp
 ·rw [sev_ge h]; simp
theorem drop_head {s : List UInt8} {i : Nat} {c : UInt8} {r : List UInt8} (h : s.drop i = c :: r) : ∃ hi : i < s.length, s[i] = c ∧ s.drop (i + 1) = r := by
 have hi : i < s.length := by
  rcases Nat.lt_or_ge i s.length with h' | h'
  ·exact h'
  ·rw [List.drop_eq_nil_of_le h'] at h; cases h
 rw [List.drop_eq_getElem_cons hi] at h
 injection h with h1 h2
 exact ⟨hi, h1, h2⟩
theorem getGo_sev (s : List UInt8) : ∀ (f i n x : Nat) (rest : List UInt8), 0 < f → x < 128 ^ f → s.drop i = sev x ++ rest → getGo s f i n = (n + x * 128 ^ i, i + (sev x).length, decide (x = 0 ∧ 0 < i))
 | 0, _, _, _, _, h, _, _ => absurd h (by omega)
 | f + 1, i, n, x, rest, _, hx, hd => by
  by_cases h : x < 128
  ·rw [sev_lt h] at hd ⊢
   obtain ⟨hi, hc, _⟩ := drop_head hd
   have ht : s[i].toNat = x := by rw [hc, UInt8.toNat_ofNat']; omega
   rw [getGo, dif_pos hi, if_pos (by rw [ht]; exact h), ht]; rfl
  ·rw [sev_ge h] at hd ⊢
   obtain ⟨hi, hc, hr⟩ := drop_head hd
   have ht : s[i].toNat = x % 128 + 128 := by rw [hc, UInt8.toNat_ofNat']; omega
   have hf : 0 < f := by
    rcases Nat.eq_zero_or_pos f with h0 | h0
    ·subst h0; simp at hx; omega
    ·exact h0
   have hx' : x / 128 < 128 ^ f := by rw [Nat.pow_succ] at hx; omega
   rw [getGo, dif_pos hi, if_neg (by rw [ht]; omega), getGo_sev s f (i + 1) _ (x / 128) rest hf hx' hr]
   have e1 : s[i].toNat % 128 = x % 128 := by rw [ht]; omega
   have e2 : n + s[i].toNat % 128 * 128 ^ i + x / 128 * 128 ^ (i + 1) = n + x * 128 ^ i := by
    rw [e1, Nat.pow_succ]
    have : x * 128 ^ i = (x % 128 + 128 * (x / 128)) * 128 ^ i := by rw [Nat.mod_add_div]
    rw [this, Nat.add_mul, ← Nat.mul_assoc, Nat.mul_comm (x / 128 * 128 ^ i) 128, ← Nat.mul_assoc, Nat.add_assoc]
   rw [e2]
   have e3 : decide (x / 128 = 0 ∧ 0 < i + 1) = false := by simp; omega
   have e4 : decide (x = 0 ∧ 0 < i) = false := by simp; omega
   rw [e3, e4, List.length_cons]
   congr 2; omega
theorem getF_sev {s : List UInt8} {x : Nat} {rest : List UInt8} (hx : x < 4398046511104) (h : s = sev x ++ rest) : getF s = (x, (sev x).length, false) := by
 have := getGo_sev s 6 0 0 x rest (by decide) hx (by simpa using h)
 rw [getF, this]; simp
theorem getGo_only (s : List UInt8) : ∀ (f i n r m : Nat), getGo s f i n = (r, m, false) → ∃ x, r = n + x * 128 ^ i ∧ s.drop i = sev x ++ s.drop m ∧ i < m ∧ (i = 0 ∨ x ≠ 0)
 | 0, i, n, r, m, h => by simp [getGo] at h
 | f + 1, i, n, r, m, h => by
  rw [getGo] at h
  split at h
  ·rename_i hi
   split at h
   ·rename_i hc
    simp only [Prod.mk.injEq, decide_eq_false_iff_not] at h
    obtain ⟨rfl, rfl, hb⟩ := h
    refine ⟨s[i].toNat, rfl, ?_, by omega, by omega⟩
    rw [sev_lt hc, List.drop_eq_getElem_cons hi]
    simp
   ·rename_i hc
    obtain ⟨x, hr, hd, hm, hx⟩ := getGo_only s f (i + 1) _ r m h
    have hx0 : x ≠ 0 := by omega
    refine ⟨s[i].toNat % 128 + 128 * x, ?_, ?_, by omega, by omega⟩
    ·rw [hr, Nat.pow_succ, Nat.add_mul, ← Nat.mul_assoc, Nat.mul_comm (x * 128 ^ i) 128, ← Nat.mul_assoc, Nat.add_assoc]
    ·have h1 : ¬ (s[i].toNat % 128 + 128 * x) < 128 := by omega
     rw [sev_ge h1, List.drop_eq_getElem_cons hi, hd]
     have e1 : (s[i].toNat % 128 + 128 * x) % 128 = s[i].toNat % 128 := by omega
     have e2 : (s[i].toNat % 128 + 128 * x) / 128 = x := by omega
     rw [e1, e2, u8_back _ hc]; rfl
  ·simp at h
theorem getF_only {s : List UInt8} {r m : Nat} (h : getF s = (r, m, false)) : s = sev r ++ s.drop m ∧ 0 < m := by
 obtain ⟨x, hr, hd, hm, _⟩ := getGo_only s 6 0 0 r m h
 have : r = x := by simpa using hr
 subst this
 exact ⟨by simpa using hd, hm⟩
theorem zag_zig (n : Int) : zag (zig n) = n := by
 by_cases h : n < 0
 ·rw [zig_neg h, zag_odd (by omega)]; omega
 ·rw [zig_nn (by omega), zag_even (by omega)]; omega
theorem zig_zag (n : Nat) : zig (zag n) = n := by
 by_cases h : n % 2 = 0
 ·rw [zag_even h, zig_nn (by omega)]; omega
 ·rw [zag_odd h, zig_neg (by omega)]; omega
theorem good_bounds {p : Part} (h : goodP p = true) : 1 ≤ p.id ∧ p.id ≤ 30 ∧ 0 ≤ p.kind ∧ p.kind ≤ 2 ∧ -1099511627776 ≤ p.n ∧ p.n ≤ 1099511627776 ∧ p.s.size ≤ 20000 ∧ (p.kind = 0 → p.s.size = 0) ∧ (p.kind ≠ 0 → p.n = 0) := by
 simp only [goodP, Bool.and_eq_true, Bool.or_eq_true, decide_eq_true_eq] at h
 omega
theorem stepD_enc {p : Part} (hg : goodP p = true) (rest : List UInt8) : stepD (encP p ++ rest) = some (p, rest) := by
 obtain ⟨i1, i2, k1, k2, n1, n2, s1, h0, hn⟩ := good_bounds hg
 obtain ⟨id, kind, n, s⟩ := p
 simp only at *
 have hkl : (4 * id + kind).toNat < 4398046511104 := by omega
 by_cases hk : kind = 0
 ·subst hk
  have hzl : zig n < 4398046511104 := by unfold zig; split <;> omega
  have he : encP ⟨id, 0, n, s⟩ ++ rest = sev (4 * id + 0).toNat ++ (sev (zig n) ++ rest) := by rw [encP, if_pos rfl, List.append_assoc]
  have g1 := getF_sev hkl he
  have hd : (encP ⟨id, 0, n, s⟩ ++ rest).drop (sev (4 * id + 0).toNat).length = sev (zig n) ++ rest := by rw [he, List.drop_left]
  have g2 := getF_sev hzl hd
  rw [stepD_eq g1 g2, if_neg (by simp), if_pos (by omega), hd, List.drop_left, zag_zig]
  have hs : s = ⟨#[]⟩ := ba_of (List.eq_nil_of_length_eq_zero (h0 rfl))
  have hi : (((4 * id + 0).toNat : Nat) : Int) / 4 = id := by omega
  rw [hi, ← hs, if_pos hg]
 ·have hsl : s.size < 4398046511104 := by omega
  have hn0 : n = 0 := hn hk
  subst hn0
  have he : encP ⟨id, kind, 0, s⟩ ++ rest = sev (4 * id + kind).toNat ++ (sev s.size ++ (bytes s ++ rest)) := by
   rw [encP, if_neg hk]; simp [List.append_assoc]
  have g1 := getF_sev hkl he
  have hd : (encP ⟨id, kind, 0, s⟩ ++ rest).drop (sev (4 * id + kind).toNat).length = sev s.size ++ (bytes s ++ rest) := by rw [he, List.drop_left]
  have g2 := getF_sev hsl hd
  have hl : s.size = (bytes s).length := rfl
  rw [stepD_eq g1 g2, if_neg (by simp), if_neg (by omega), hd, List.drop_left, if_pos (by rw [List.length_append]; omega), hl, List.take_left, List.drop_left]
  have hi : (((4 * id + kind).toNat : Nat) : Int) / 4 = id := by omega
  have hm : (((4 * id + kind).toNat : Nat) : Int) % 4 = kind := by omega
  have hs : (⟨(bytes s).toArray⟩ : ByteArray) = s := (ba_of rfl).symm
  rw [hi, hm, hs, if_pos hg]
theorem stepD_only {s s' : List UInt8} {p : Part} (h : stepD s = some (p, s')) : goodP p = true ∧ s = encP p ++ s' := by
 obtain ⟨key, m1, b1, g1⟩ : ∃ k m b, getF s = (k, m, b) := ⟨_, _, _, rfl⟩
 obtain ⟨n, m2, b2, g2⟩ : ∃ k m b, getF (s.drop m1) = (k, m, b) := ⟨_, _, _, rfl⟩
 rw [stepD_eq g1 g2] at h
 by_cases hb : b1 = true ∨ b2 = true
 ·rw [if_pos hb] at h; cases h
 rw [if_neg hb] at h
 have hb1 : b1 = false := by cases b1 <;> simp_all
 have hb2 : b2 = false := by cases b2 <;> simp_all
 subst hb1 hb2
 obtain ⟨e1, _⟩ := getF_only g1
 obtain ⟨e2, _⟩ := getF_only g2
 by_cases hk : key % 4 = 0
 ·rw [if_pos hk] at h
  split at h
  ·rename_i hg
   injection h with h
   injection h with hp hs
   subst hp
   refine ⟨hg, ?_⟩
   subst hs
   have ek : (4 * ((key : Int) / 4) + 0).toNat = key := by omega
   rw [encP, if_pos rfl, zig_zag, ek, List.append_assoc, ← e2]
   exact e1
  ·cases h
 ·rw [if_neg hk] at h
  split at h
  ·rename_i hn
   split at h
   ·rename_i hg
    injection h with h
    injection h with hp hs
    subst hp
    refine ⟨hg, ?_⟩
    subst hs
    have ek : (4 * ((key : Int) / 4) + (key : Int) % 4).toNat = key := by omega
    have hz : ¬ ((key : Int) % 4) = 0 := by omega
    have hsz : (⟨(((s.drop m1).drop m2).take n).toArray⟩ : ByteArray).size = n := by
     show (((s.drop m1).drop m2).take n).toArray.size = n
     simp at hn ⊢; omega
    rw [encP, if_neg hz, ek, hsz, bytes_of, List.append_assoc, List.append_assoc, List.take_append_drop, ← e2]
    exact e1
   ·cases h
  ·cases h
theorem encL_ok : ∀ (l : List Part) (acc r : List UInt8), encL l acc = (r, 0) → r = acc ++ l.flatMap encP ∧ (∀ p ∈ l, goodP p = true) ∧ (l ≠ [] → r.length ≤ 20000)
 | [], acc, r, h => by simp [encL] at h; simp [h]
 | p :: l, acc, r, h => by
  rw [encL] at h
  by_cases hg : goodP p = true
  ·rw [if_pos hg] at h
   by_cases hl : 20000 < (acc ++ encP p).length
   ·rw [if_pos hl] at h; simp at h
   ·rw [if_neg hl] at h
    obtain ⟨h1, h2, h3⟩ := encL_ok l _ _ h
    refine ⟨by rw [h1]; simp, fun q hq => ?_, fun _ => ?_⟩
    ·rcases List.mem_cons.1 hq with rfl | h
     ·exact hg
     ·exact h2 q h
    ·by_cases hn : l = []
     ·subst hn; rw [h1]; simp at hl ⊢; omega
     ·exact h3 hn
  ·rw [if_neg hg] at h; simp at h
theorem decL_flat : ∀ (l : List Part) (acc : List Part), (∀ p ∈ l, goodP p = true) → decL (l.flatMap encP).length (l.flatMap encP) acc = (acc ++ l, 0)
 | [], acc, _ => by simp [decL]
 | p :: l, acc, h => by
  have hne : (p :: l).flatMap encP ≠ [] := by
   rw [List.flatMap_cons]
   intro h
   have h1 := (List.append_eq_nil_iff.1 h).1
   unfold encP at h1
   exact sev_ne _ (List.append_eq_nil_iff.1 h1).1
  have hst := stepD_enc (h p (by simp)) (l.flatMap encP)
  rw [← List.flatMap_cons] at hst
  rw [decL_on hne hst, decL_flat l _ (fun q hq => h q (by simp [hq]))]
  simp
theorem wire_back {l : List Part} {r : List UInt8} (h : encL l [] = (r, 0)) : decF r = (l, 0) := by
 obtain ⟨h1, h2, h3⟩ := encL_ok l [] r h
 simp at h1
 have hl : ¬ 20000 < r.length := by
  by_cases hn : l = []
  ·subst hn; subst h1; simp
  ·have := h3 hn; omega
 rw [decF, if_neg hl, h1, decL_flat l [] h2]; rfl
theorem decL_only : ∀ (f : Nat) (s : List UInt8) (acc l : List Part), decL f s acc = (l, 0) → s.length ≤ f → ∃ l', l = acc ++ l' ∧ s = l'.flatMap encP ∧ ∀ p ∈ l', goodP p = true
 | 0, s, acc, l, h, hs => by
  have : s = [] := List.eq_nil_of_length_eq_zero (by omega)
  subst this
  simp [decL] at h
  exact ⟨[], by simp [h], by simp, by simp⟩
 | f + 1, s, acc, l, h, hs => by
  rw [decL] at h
  by_cases hn : s = []
  ·rw [if_pos hn] at h
   simp at h
   exact ⟨[], by simp [h], by simp [hn], by simp⟩
  ·rw [if_neg hn] at h
   cases hst : stepD s with
   | none => rw [hst] at h; simp at h
   | some r =>
    obtain ⟨p, s'⟩ := r
    rw [hst] at h
    have hl := stepD_len hst
    obtain ⟨hg, he⟩ := stepD_only hst
    obtain ⟨l', h1, h2, h3⟩ := decL_only f s' _ l h (by omega)
    refine ⟨p :: l', by simp [h1], by rw [List.flatMap_cons, ← h2]; exact he, fun q hq => ?_⟩
    rcases List.mem_cons.1 hq with rfl | h
    ·exact hg
    ·exact h3 q h
theorem encL_flat : ∀ (l : List Part) (acc : List UInt8), (∀ p ∈ l, goodP p = true) → (acc ++ l.flatMap encP).length ≤ 20000 → encL l acc = (acc ++ l.flatMap encP, 0)
 | [], acc, _, _ => by simp [encL]
 | p :: l, acc, h, hl => by
  have hl' : ¬ 20000 < (acc ++ encP p).length := by
   rw [List.flatMap_cons, ← List.append_assoc, List.length_append] at hl; omega
  rw [encL, if_pos (h p (by simp)), if_neg hl', encL_flat l _ (fun q hq => h q (by simp [hq])) (by rw [List.flatMap_cons, ← List.append_assoc] at hl; exact hl)]
  simp
theorem wire_only {s : List UInt8} {l : List Part} (h : decF s = (l, 0)) : encL l [] = (s, 0) := by
 unfold decF at h
 by_cases hl : 20000 < s.length
 ·rw [if_pos hl] at h; simp at h
 ·rw [if_neg hl] at h
  obtain ⟨l', h1, h2, h3⟩ := decL_only _ s [] l h (Nat.le_refl _)
  simp at h1
  subst h1
  rw [encL_flat l [] h3 (by rw [← h2]; simp; omega), ← h2]; rfl
theorem decF_code (s : List UInt8) : (decF s).2 ≠ 0 → (decF s).1 = [] := by
 unfold decF
 split
 ·intro _; rfl
 ·have : ∀ (f : Nat) (s : List UInt8) (acc : List Part), (decL f s acc).2 ≠ 0 → (decL f s acc).1 = [] := by
   intro f
   induction f with
   | zero => intro s acc h; simp [decL] at h
   | succ f ih =>
    intro s acc h
    rw [decL] at h ⊢
    by_cases hn : s = []
    ·rw [if_pos hn] at h; simp at h
    ·rw [if_neg hn] at h ⊢
     cases hst : stepD s with
     | none => rfl
     | some r => rw [hst] at h; exact ih _ _ h
  exact this _ _ _
theorem encL_code : ∀ (l : List Part) (acc : List UInt8), (encL l acc).2 ≠ 0 → (encL l acc).1 = []
 | [], acc, h => by simp [encL] at h
 | p :: l, acc, h => by
  rw [encL] at h ⊢
  by_cases hg : goodP p = true
  ·rw [if_pos hg] at h ⊢
   split
   ·rfl
   ·rename_i hl
    rw [if_neg hl] at h
    exact encL_code l _ h
  ·rw [if_neg hg]
end Go.Proofs.YtfobdbhmfohfnaaGreatDoor
namespace Go.Proofs.YtfobdbhmfohfnaaGreatDoor
inductive ValueD where
 | mk (kind n : Int) (s : ByteArray) (ids : List Int) (l : List ValueD)
namespace ValueD
def kind : ValueD → Int | mk k _ _ _ _ => k
def n : ValueD → Int | mk _ n _ _ _ => n
def s : ValueD → ByteArray | mk _ _ s _ _ => s
def ids : ValueD → List Int | mk _ _ _ i _ => i
def l : ValueD → List ValueD | mk _ _ _ _ l => l
def zero : ValueD := mk 0 0 ⟨#[]⟩ [] []
end ValueD
def msgV (ids : List Int) (l : List ValueD) : ValueD := .mk 2 0 ⟨#[]⟩ ids l
def plainF (s : ByteArray) : Bool := (bytes s).all (fun c => decide (c.toNat < 128)) && decide (s.size ≤ 40)
mutual
def depthV : ValueD → Nat
 | .mk _ _ _ _ l => depthL l + 1
def depthL : List ValueD → Nat
 | [] => 0
 | x :: l => max (depthV x) (depthL l)
end
mutual
def countV : ValueD → Nat
 | .mk _ _ _ _ l => countL l + 1
def countL : List ValueD → Nat
 | [] => 0
 | x :: l => countV x + countL l
end
def smallF (v : ValueD) : Bool := decide (depthV v ≤ 24 ∧ countV v ≤ 400)
def kindOf (k : Int) : Int := if k = 3 then 1 else if k = 5 then 2 else 0
def oddF (v : ValueD) : Bool := decide ((v.kind ≠ 2 ∧ 0 < v.ids.length + v.l.length) ∨ (v.kind ≠ 0 ∧ v.n ≠ 0) ∨ (v.kind ≠ 1 ∧ v.s.size ≠ 0))
def fitsF (b : BookD) (f : FieldD) (v : ValueD) : Int :=
 if v.kind ≠ kindOf f.kind then 5
 else if oddF v = true then 1
 else if f.kind = 1 then (if v.n = 0 ∨ v.n = 1 then 0 else 6)
 else if f.kind = 2 then (if v.n < -1099511627776 ∨ 1099511627776 < v.n then 2 else 0)
 else if f.kind = 3 then (if plainF v.s = true then 0 else 1)
 else if f.kind = 4 then (if meansF ((findT b f.type).getD .zero) v.n = true then 0 else 6)
 else 0
def hasI (l : List Int) (n : Int) : Bool := l.any fun m => decide (m = n)
def typeOf (b : BookD) (name : ByteArray) : TypeD := (findT b name).getD .zero
def fullF (t : TypeD) (ids : List Int) : Bool := t.fields.all fun f => decide (f.rule ≠ 1) || hasI ids f.id
def placeF (t : TypeD) (last : Option Int) (id : Int) : Int := match fieldOf t id with
 | none => 3
 | some f => match last with
  | none => 0
  | some k => if id < k then 1 else if k = id ∧ f.rule ≠ 3 then 4 else 0
mutual
def typedF (b : BookD) : TypeD → ValueD → Int
 | t, .mk kind n s ids l =>
  if kind ≠ 2 then 5 else if ids.length ≠ l.length ∨ n ≠ 0 ∨ s.size ≠ 0 then 1
  else if typedGo b t none ids l ≠ 0 then typedGo b t none ids l
  else if fullF t ids = true then 0 else 3
def typedGo (b : BookD) : TypeD → Option Int → List Int → List ValueD → Int
 | _, _, _, [] => 0
 | t, last, ids, x :: l => match ids with
  | [] => 0
  | id :: ids =>
   if placeF t last id ≠ 0 then placeF t last id
   else if fitsF b ((fieldOf t id).getD .zero) x ≠ 0 then fitsF b ((fieldOf t id).getD .zero) x
   else if ((fieldOf t id).getD .zero).kind = 5 ∧ typedF b (typeOf b ((fieldOf t id).getD .zero).type) x ≠ 0 then typedF b (typeOf b ((fieldOf t id).getD .zero).type) x
   else typedGo b t (some id) ids l
end
def noneB (b : BookD) (name : ByteArray) : Bool := match findT b name with | none => true | some t => t.enum
def TypedF (b : BookD) (name : ByteArray) (v : ValueD) : Int :=
 if goodF b ≠ 0 then 1 else if noneB b name = true then 3 else if smallF v = false then 7 else typedF b (typeOf b name) v
def leastOfF (b : BookD) (k : Nat) (f : FieldD) : ValueD :=
 if f.kind = 3 then .mk 1 0 ⟨#[]⟩ [] []
 else if f.kind = 4 then .mk 0 (((typeOf b f.type).items.head?.map (·.n)).getD 0) ⟨#[]⟩ [] []
 else if f.kind = 5 then match k with
  | 0 => .zero
  | k + 1 => msgV (((typeOf b f.type).fields.filter fun g => decide (g.rule = 1)).map (·.id)) (((typeOf b f.type).fields.filter fun g => decide (g.rule = 1)).map (leastOfF b k))
 else .zero
def leastTF (b : BookD) (k : Nat) (t : TypeD) : ValueD := msgV ((t.fields.filter fun g => decide (g.rule = 1)).map (·.id)) ((t.fields.filter fun g => decide (g.rule = 1)).map (leastOfF b k))
def partOf (id : Int) (x : ValueD) (inner : List UInt8) : Part := ⟨id, x.kind, x.n, if x.kind = 2 then ⟨inner.toArray⟩ else x.s⟩
mutual
def encV : ValueD → List UInt8 × Int
 | .mk _ _ _ ids l => if (partsGo ids l []).2 ≠ 0 then ([], (partsGo ids l []).2) else encL (partsGo ids l []).1 []
def partsGo : List Int → List ValueD → List Part → List Part × Int
 | _, [], acc => (acc, 0)
 | ids, x :: l, acc => match ids with
  | [] => (acc, 0)
  | id :: ids => if x.kind = 2 ∧ (encV x).2 ≠ 0 then ([], (encV x).2) else partsGo ids l (acc ++ [partOf id x (encV x).1])
end
def EncodeF (b : BookD) (name : ByteArray) (v : ValueD) : List UInt8 × Int := if TypedF b name v ≠ 0 then ([], TypedF b name v) else encV v
def filledGo (b : BookD) (k : Nat) (ids : List Int) (l : List ValueD) (f : FieldD) : List (Int × ValueD) :=
 (if f.rule = 1 ∧ hasI ids f.id = false then [(f.id, leastOfF b k f)] else []) ++ (ids.zip l).filter fun p => decide (p.1 = f.id)
def filledF (b : BookD) (k : Nat) (t : TypeD) (ids : List Int) (l : List ValueD) : ValueD :=
 msgV ((t.fields.flatMap (filledGo b k ids l)).map (·.1)) ((t.fields.flatMap (filledGo b k ids l)).map (·.2))
def bareV (p : Part) : ValueD := .mk p.kind p.n (if p.kind = 1 then p.s else ⟨#[]⟩) [] []
def fallsF (last : Option Int) (id : Int) : Bool := match last with | none => false | some k => decide (id < k)
def decGo (b : BookD) (rec : TypeD → List UInt8 → ValueD × Int) (t : TypeD) : Option Int → List Part → List Int → List ValueD → (List Int × List ValueD) × Int
 | _, [], ids, l => ((ids, l), 0)
 | last, p :: ps, ids, l =>
  if fallsF last p.id = true then (([], []), 1)
  else match fieldOf t p.id with
   | none => decGo b rec t (some p.id) ps ids l
   | some f =>
    if fitsF b f (bareV p) ≠ 0 then (([], []), fitsF b f (bareV p))
    else if f.rule ≠ 3 ∧ hasI ids p.id = true then (([], []), 4)
    else if f.kind = 5 then
     (if (rec (typeOf b f.type) (bytes p.s)).2 ≠ 0 then (([], []), (rec (typeOf b f.type) (bytes p.s)).2)
     else decGo b rec t (some p.id) ps (ids ++ [p.id]) (l ++ [(rec (typeOf b f.type) (bytes p.s)).1]))
    else decGo b rec t (some p.id) ps (ids ++ [p.id]) (l ++ [bareV p])
def decV (b : BookD) : Nat → TypeD → List UInt8 → ValueD × Int
 | 0, _, _ => (.zero, 7)
 | k + 1, t, s =>
  if (decF s).2 ≠ 0 then (.zero, (decF s).2)
  else if (decGo b (decV b k) t none (decF s).1 [] []).2 ≠ 0 then (.zero, (decGo b (decV b k) t none (decF s).1 [] []).2)
  else (filledF b 4 t (decGo b (decV b k) t none (decF s).1 [] []).1.1 (decGo b (decV b k) t none (decF s).1 [] []).1.2, 0)
def DecodeF (b : BookD) (name : ByteArray) (s : List UInt8) : ValueD × Int :=
 if goodF b ≠ 0 then (.zero, 1) else if noneB b name = true then (.zero, 3)
 else if (decV b 24 (typeOf b name) s).2 ≠ 0 then (.zero, (decV b 24 (typeOf b name) s).2)
 else if smallF (decV b 24 (typeOf b name) s).1 = false then (.zero, 7) else ((decV b 24 (typeOf b name) s).1, 0)
def LeastF (b : BookD) (name : ByteArray) : ValueD × Int :=
 if goodF b ≠ 0 then (.zero, 1) else if noneB b name = true then (.zero, 3) else (leastTF b 4 (typeOf b name), 0)
end Go.Proofs.YtfobdbhmfohfnaaGreatDoor
namespace Go.Proofs.YtfobdbhmfohfnaaGreatDoor
theorem findT_some {b : BookD} {name : ByteArray} {t : TypeD} (h : findT b name = some t) : t ∈ b ∧ t.name = name := by
 have h1 := List.mem_of_find?_eq_some h
 have h2 := List.find?_some h
 exact ⟨h1, by simpa using h2⟩
theorem fieldOf_some {t : TypeD} {id : Int} {f : FieldD} (h : fieldOf t id = some f) : f ∈ t.fields ∧ f.id = id := by
 have h1 := List.mem_of_find?_eq_some h
 have h2 := List.find?_some h
 exact ⟨h1, by simpa using h2⟩
theorem good_parts {b : BookD} (h : goodF b = 0) : b.length ≤ 4 ∧ TypesP b ∧ LeastP b := by
 unfold goodF at h
 split at h
 ·simp at h
 ·split at h
  ·simp at h
  ·split at h
   ·simp at h
   ·rename_i h1 h2 h3
    exact ⟨by omega, by simpa using h2, by simpa using h3⟩
theorem good_msg {b : BookD} (h : goodF b = 0) {t : TypeD} (ht : t ∈ b) (he : t.enum = false) : MessageP b t := by
 obtain ⟨_, h1, _⟩ := good_parts h
 obtain ⟨i, hi, rfl⟩ := List.getElem_of_mem ht
 have := (h1 i hi).2.2
 rw [he] at this
 simpa [messageF] using this
theorem good_enum {b : BookD} (h : goodF b = 0) {t : TypeD} (ht : t ∈ b) (he : t.enum = true) : EnumP t := by
 obtain ⟨_, h1, _⟩ := good_parts h
 obtain ⟨i, hi, rfl⟩ := List.getElem_of_mem ht
 have := (h1 i hi).2.2
 rw [he] at this
 simpa [enumF] using this
theorem good_least {b : BookD} (h : goodF b = 0) {t : TypeD} (ht : t ∈ b) (he : t.enum = false) : 1 ≤ leastF b 4 t.name ∧ leastF b 4 t.name ≤ 12 := by
 obtain ⟨_, _, h1⟩ := good_parts h
 obtain ⟨i, hi, rfl⟩ := List.getElem_of_mem ht
 exact h1 i hi he
theorem pairwise_of_next {α : Type} {R : α → α → Prop} (tr : ∀ a b c, R a b → R b c → R a c) : ∀ (l : List α), (∀ i (h : i < l.length), ∀ (_ : 0 < i), R l[i - 1] l[i]) → l.Pairwise R
 | [], _ => .nil
 | [a], _ => by simp
 | a :: b :: l, h => by
  have ht := pairwise_of_next tr (b :: l) (fun i hi h0 => by
   have := h (i + 1) (by simp at hi ⊢; omega) (by omega)
   obtain ⟨j, rfl⟩ : ∃ j, i = j + 1 := ⟨i - 1, by omega⟩
   simpa using this)
  have hab : R a b := h 1 (by simp) (by omega)
  refine List.pairwise_cons.2 ⟨fun c hc => ?_, ht⟩
  rcases List.mem_cons.1 hc with rfl | hc
  ·exact hab
  ·exact tr _ _ _ hab ((List.pairwise_cons.1 ht).1 c hc)
theorem msg_sorted {b : BookD} {t : TypeD} (h : MessageP b t) : t.fields.Pairwise (fun f g => f.id < g.id) :=
 pairwise_of_next (R := fun f g : FieldD => f.id < g.id) (fun _ _ _ h1 h2 => Int.lt_trans h1 h2) _ fun i hi h0 => (h.2.2.2.2 i hi).2.1 h0
theorem msg_field {b : BookD} {t : TypeD} (h : MessageP b t) {f : FieldD} (hf : f ∈ t.fields) : fieldP b f := by
 obtain ⟨i, hi, rfl⟩ := List.getElem_of_mem hf
 exact (h.2.2.2.2 i hi).1
theorem find_sorted {α : Type} {k : α → Int} : ∀ {l : List α} {f : α}, l.Pairwise (fun f g => k f < k g) → f ∈ l → l.find? (fun g => decide (k g = k f)) = some f
 | a :: l, f, hs, hf => by
  rw [List.find?_cons]
  rcases List.mem_cons.1 hf with rfl | h
  ·simp
  ·have := (List.pairwise_cons.1 hs).1 f h
   have hne : ¬ k a = k f := by omega
   simp only [hne, decide_false]
   exact find_sorted (List.pairwise_cons.1 hs).2 h
theorem fieldOf_mem {b : BookD} {t : TypeD} (h : MessageP b t) {f : FieldD} (hf : f ∈ t.fields) : fieldOf t f.id = some f := find_sorted (msg_sorted h) hf
theorem field_msg {b : BookD} (hg : goodF b = 0) {f : FieldD} (hf : fieldP b f) (hk : f.kind = 5) : ∃ t, findT b f.type = some t ∧ typeOf b f.type = t ∧ t ∈ b ∧ t.name = f.type ∧ t.enum = false ∧ MessageP b t := by
 have h1 := (hf.2.2.2.2.2.2.2).2 (by omega)
 obtain ⟨t, ht⟩ := Option.isSome_iff_exists.1 h1.1
 have h2 := h1.2
 rw [ht] at h2
 have he : t.enum = false := by simpa [hk] using h2
 exact ⟨t, ht, by rw [typeOf, ht]; rfl, (findT_some ht).1, (findT_some ht).2, he, good_msg hg (findT_some ht).1 he⟩
theorem field_enum {b : BookD} (hg : goodF b = 0) {f : FieldD} (hf : fieldP b f) (hk : f.kind = 4) : ∃ t, findT b f.type = some t ∧ typeOf b f.type = t ∧ t.enum = true ∧ EnumP t := by
 have h1 := (hf.2.2.2.2.2.2.2).2 (by omega)
 obtain ⟨t, ht⟩ := Option.isSome_iff_exists.1 h1.1
 have h2 := h1.2
 rw [ht] at h2
 have he : t.enum = true := by simpa [hk] using h2
 exact ⟨t, ht, by rw [typeOf, ht]; rfl, he, good_enum hg (findT_some ht).1 he⟩
def Follow (t : TypeD) (i j : Int) : Prop := i ≤ j ∧ (i = j → ((fieldOf t i).getD .zero).rule = 3)
theorem Follow.trans {t : TypeD} {a b c : Int} (h1 : Follow t a b) (h2 : Follow t b c) : Follow t a c :=
 ⟨Int.le_trans h1.1 h2.1, fun h => h1.2 (by have := h1.1; have := h2.1; omega)⟩
theorem place_iff {t : TypeD} {last : Option Int} {id : Int} : placeF t last id = 0 ↔ (fieldOf t id).isSome = true ∧ ∀ k, last = some k → Follow t k id := by
 unfold placeF
 cases hf : fieldOf t id with
 | none => simp
 | some f =>
  cases last with
  | none => simp
  | some k =>
   simp only [Option.isSome_some, Option.some.injEq, true_and, forall_eq', Follow]
   by_cases h1 : id < k
   ·rw [if_pos h1]; simp; omega
   ·rw [if_neg h1]
    by_cases h2 : k = id ∧ f.rule ≠ 3
    ·rw [if_pos h2]
     obtain ⟨rfl, h2⟩ := h2
     simp [hf, h2]
    ·rw [if_neg h2]
     simp only [true_iff]
     refine ⟨by omega, ?_⟩
     rintro rfl
     rw [hf]
     simp at h2
     exact h2
def FitP (b : BookD) (t : TypeD) (id : Int) (x : ValueD) : Prop :=
 fitsF b ((fieldOf t id).getD .zero) x = 0 ∧ (((fieldOf t id).getD .zero).kind = 5 → typedF b (typeOf b ((fieldOf t id).getD .zero).type) x = 0)
theorem typedGo_iff (b : BookD) (t : TypeD) : ∀ (l : List ValueD) (ids : List Int) (last : Option Int), ids.length = l.length →
  (typedGo b t last ids l = 0 ↔ (∀ id ∈ ids, (fieldOf t id).isSome = true ∧ ∀ k, last = some k → Follow t k id) ∧ ids.Pairwise (Follow t) ∧ ∀ p ∈ ids.zip l, FitP b t p.1 p.2)
 | [], ids, last, h => by
  have : ids = [] := List.eq_nil_of_length_eq_zero (by simpa using h)
  subst this; simp [typedGo]
 | x :: l, [], last, h => by simp at h
 | x :: l, id :: ids, last, h => by
  have ih := typedGo_iff b t l ids (some id) (by simpa using h)
  have hs : typedGo b t last (id :: ids) (x :: l) = 0 ↔ placeF t last id = 0 ∧ FitP b t id x ∧ typedGo b t (some id) ids l = 0 := by
   rw [typedGo]
   by_cases h1 : placeF t last id = 0
   ·rw [if_neg (by simpa using h1)]
    unfold FitP
    by_cases h2 : fitsF b ((fieldOf t id).getD .zero) x = 0
    ·rw [if_neg (by simpa using h2)]
     by_cases h3 : ((fieldOf t id).getD .zero).kind = 5 ∧ typedF b (typeOf b ((fieldOf t id).getD .zero).type) x ≠ 0
     ·rw [if_pos h3]
      simp [h1, h2, h3.1, h3.2]
     ·rw [if_neg h3]
      have h4 : ((fieldOf t id).getD .zero).kind = 5 → typedF b (typeOf b ((fieldOf t id).getD .zero).type) x = 0 := by
       intro h5
       by_cases h6 : typedF b (typeOf b ((fieldOf t id).getD .zero).type) x = 0
       ·exact h6
       ·exact absurd ⟨h5, h6⟩ h3
      simp [h1, h2]
      intro _
      exact h4
    ·rw [if_pos h2]
     simp [h2]
   ·rw [if_pos h1]
    simp [h1]
  rw [hs, ih, place_iff]
  simp only [Option.some.injEq, forall_eq', List.mem_cons, forall_eq_or_imp, List.pairwise_cons, List.zip_cons_cons]
  constructor
  ·rintro ⟨⟨a1, a2⟩, b1, c1, c2, c3⟩
   exact ⟨⟨⟨a1, a2⟩, fun i hi => ⟨(c1 i hi).1, fun k hk => (a2 k hk).trans (c1 i hi).2⟩⟩, ⟨fun i hi => (c1 i hi).2, c2⟩, b1, c3⟩
  ·rintro ⟨⟨⟨a1, a2⟩, a3⟩, ⟨b1, b2⟩, c1, c2⟩
   exact ⟨⟨a1, a2⟩, c1, fun i hi => ⟨(a3 i hi).1, b1 i hi⟩, b2, c2⟩
theorem typedF_iff (b : BookD) (t : TypeD) (v : ValueD) : typedF b t v = 0 ↔ v.kind = 2 ∧ v.ids.length = v.l.length ∧ v.n = 0 ∧ v.s.size = 0 ∧ (∀ id ∈ v.ids, (fieldOf t id).isSome = true) ∧ v.ids.Pairwise (Follow t) ∧ (∀ p ∈ v.ids.zip v.l, FitP b t p.1 p.2) ∧ fullF t v.ids = true := by
 obtain ⟨kind, n, s, ids, l⟩ := v
 simp only [typedF, ValueD.kind, ValueD.ids, ValueD.l, ValueD.n, ValueD.s]
 by_cases h1 : kind = 2
 ·rw [if_neg (by simpa using h1)]
  by_cases h2 : ids.length ≠ l.length ∨ n ≠ 0 ∨ s.size ≠ 0
  ·rw [if_pos h2]
   constructor
   ·intro h; simp at h
   ·rintro ⟨_, a, b, c, _⟩; omega
  ·rw [if_neg h2]
   have hl : ids.length = l.length := by omega
   have := typedGo_iff b t l ids none hl
   by_cases h3 : typedGo b t none ids l = 0
   ·rw [if_neg (by simpa using h3)]
    have := this.1 h3
    by_cases h4 : fullF t ids = true
    ·rw [if_pos h4]
     simp only [true_iff]
     exact ⟨h1, hl, by omega, by omega, fun i hi => (this.1 i hi).1, this.2.1, this.2.2, h4⟩
    ·rw [if_neg h4]
     simp [h4]
   ·rw [if_pos h3]
    constructor
    ·intro h; exact absurd h h3
    ·rintro ⟨_, _, _, _, a, b, c, _⟩
     exact this.2 ⟨fun i hi => ⟨a i hi, fun k hk => by cases hk⟩, b, c⟩
 ·rw [if_pos h1]
  simp [h1]
theorem filter_front {β : Type} (k : Int) : ∀ (L : List (Int × β)), L.Pairwise (fun p q => p.1 ≤ q.1) → (∀ p ∈ L, k ≤ p.1) → L.filter (fun p => decide (p.1 = k)) ++ L.filter (fun p => decide (p.1 ≠ k)) = L
 | [], _, _ => rfl
 | a :: L, hs, hk => by
  have ih := filter_front k L (List.pairwise_cons.1 hs).2 (fun p hp => hk p (by simp [hp]))
  by_cases h : a.1 = k
  ·simp only [List.filter_cons, h, decide_true, if_true, ne_eq, not_true, decide_false]
   simpa using ih
  ·have h1 : L.filter (fun p => decide (p.1 = k)) = [] := by
    rw [List.filter_eq_nil_iff]
    intro p hp
    have := (List.pairwise_cons.1 hs).1 p hp
    have := hk a (by simp)
    simp; omega
   rw [h1] at ih
   simp only [List.filter_cons, h, decide_false, ne_eq, not_false_eq_true, decide_true, if_true, h1]
   simpa using ih
theorem flatMap_filter {β : Type} : ∀ (F : List Int) (L : List (Int × β)), F.Pairwise (· < ·) → L.Pairwise (fun p q => p.1 ≤ q.1) → (∀ p ∈ L, p.1 ∈ F) → F.flatMap (fun k => L.filter (fun p => decide (p.1 = k))) = L
 | [], L, _, _, h => by
  cases L with
  | nil => rfl
  | cons a L => exact absurd (h a (by simp)) (by simp)
 | k :: F, L, hF, hL, h => by
  have hk := List.pairwise_cons.1 hF
  have hlo : ∀ p ∈ L, k ≤ p.1 := by
   intro p hp
   rcases List.mem_cons.1 (h p hp) with h1 | h1
   ·omega
   ·have := hk.1 _ h1; omega
  have ih := flatMap_filter F (L.filter (fun p => decide (p.1 ≠ k))) hk.2 (hL.filter _) (fun p hp => by
   simp only [List.mem_filter, decide_eq_true_eq] at hp
   rcases List.mem_cons.1 (h p hp.1) with h1 | h1
   ·exact absurd h1 hp.2
   ·exact h1)
  have e : F.flatMap (fun k' => L.filter (fun p => decide (p.1 = k'))) = F.flatMap (fun k' => (L.filter (fun p => decide (p.1 ≠ k))).filter (fun p => decide (p.1 = k'))) := by
   have hmem : ∀ k' ∈ F, k < k' := hk.1
   clear ih hF hk h
   induction F with
   | nil => rfl
   | cons a F ih =>
    rw [List.flatMap_cons, List.flatMap_cons, ih (fun x hx => hmem x (by simp [hx]))]
    congr 1
    rw [List.filter_filter]
    apply List.filter_congr
    intro p _
    have := hmem a (by simp)
    by_cases hp : p.1 = a
    ·simp [hp]; omega
    ·simp [hp]
  rw [List.flatMap_cons, e, ih]
  exact filter_front k L hL hlo
theorem zip_fst {α β : Type} : ∀ (a : List α) (b : List β), a.length = b.length → (a.zip b).map (·.1) = a
 | [], _, _ => by simp
 | a :: as, [], h => by simp at h
 | a :: as, b :: bs, h => by simp [zip_fst as bs (by simpa using h)]
theorem zip_snd {α β : Type} : ∀ (a : List α) (b : List β), a.length = b.length → (a.zip b).map (·.2) = b
 | [], [], _ => by simp
 | [], b :: bs, h => by simp at h
 | a :: as, [], h => by simp at h
 | a :: as, b :: bs, h => by simp [zip_snd as bs (by simpa using h)]
theorem zip_pair {α β : Type} {R : α → α → Prop} : ∀ (a : List α) (b : List β), a.Pairwise R → (a.zip b).Pairwise (fun p q => R p.1 q.1)
 | [], _, _ => by simp
 | a :: as, [], _ => by simp
 | a :: as, b :: bs, h => by
  have := List.pairwise_cons.1 h
  exact List.pairwise_cons.2 ⟨fun p hp => this.1 _ (List.of_mem_zip hp).1, zip_pair as bs this.2⟩
theorem hasI_iff {l : List Int} {n : Int} : hasI l n = true ↔ n ∈ l := by
 unfold hasI; simp
theorem filled_id {b : BookD} {t : TypeD} (hm : MessageP b t) (k : Nat) {ids : List Int} {l : List ValueD} (hl : ids.length = l.length) (hk : ∀ id ∈ ids, (fieldOf t id).isSome = true) (hf : ids.Pairwise (Follow t)) (hu : fullF t ids = true) :
  filledF b k t ids l = msgV ids l := by
 have e1 : ∀ f ∈ t.fields, filledGo b k ids l f = (ids.zip l).filter fun p => decide (p.1 = f.id) := by
  intro f hf
  unfold filledGo
  rw [if_neg, List.nil_append]
  rintro ⟨h1, h2⟩
  have := List.all_eq_true.1 hu f hf
  simp [h1, h2] at this
 have e2 : t.fields.flatMap (filledGo b k ids l) = ids.zip l := by
  have : t.fields.flatMap (filledGo b k ids l) = (t.fields.map (·.id)).flatMap (fun i => (ids.zip l).filter fun p => decide (p.1 = i)) := by
   rw [List.flatMap_map]
   rw [List.flatMap_def, List.flatMap_def, List.map_congr_left e1]
  rw [this]
  refine flatMap_filter _ _ ?_ ((zip_pair ids l hf).imp fun h => h.1) ?_
  ·rw [List.pairwise_map]; exact msg_sorted hm
  ·intro p hp
   have := hk p.1 (List.of_mem_zip hp).1
   obtain ⟨f, hf⟩ := Option.isSome_iff_exists.1 this
   have := fieldOf_some hf
   exact List.mem_map.2 ⟨f, this.1, this.2⟩
 unfold filledF
 rw [e2, zip_fst _ _ hl, zip_snd _ _ hl]
end Go.Proofs.YtfobdbhmfohfnaaGreatDoor
namespace Go.Proofs.YtfobdbhmfohfnaaGreatDoor
theorem splitF_stable : ∀ (k k' : Nat) (l : List UInt8), l.length ≤ k → l.length ≤ k' → splitF k l = splitF k' l
 | 0, k', l, h, _ => by
  obtain rfl : l = [] := List.eq_nil_of_length_eq_zero (by omega)
  cases k' <;> rfl
 | k + 1, k', [], _, _ => by cases k' <;> rfl
 | k + 1, 0, c :: l, _, h => by simp at h
 | k + 1, k' + 1, c :: l, h, h' => by
  have h1 : l.length ≤ k := by simpa using h
  have h2 : l.length ≤ k' := by simpa using h'
  have hd : ∀ p : UInt8 → Bool, (l.dropWhile p).length ≤ l.length := fun p => (List.dropWhile_suffix p).length_le
  rw [splitF, splitF, splitF_stable k k' l h1 h2, splitF_stable k k' (l.dropWhile isLet) (by have := hd isLet; omega) (by have := hd isLet; omega), splitF_stable k k' (l.dropWhile isDig) (by have := hd isDig; omega) (by have := hd isDig; omega)]
def Spl (l : List UInt8) (ws : List ByteArray) : Prop := splitF l.length l = some ws
theorem Spl.nil : Spl [] [] := rfl
theorem Spl.white {c : UInt8} {l : List UInt8} {ws : List ByteArray} (h : isWhite c = true) (hs : Spl l ws) : Spl (c :: l) ws := by
 unfold Spl at *; rw [List.length_cons, splitF, if_pos h]; exact hs
theorem Spl.sign {c : UInt8} {l : List UInt8} {ws : List ByteArray} (h : isWhite c = false) (h2 : isSign c = true) (hs : Spl l ws) : Spl (c :: l) (⟨#[c]⟩ :: ws) := by
 unfold Spl at *; rw [List.length_cons, splitF, if_neg (by simp [h]), if_pos h2, hs]; rfl
def NoHead (p : UInt8 → Bool) (l : List UInt8) : Prop := ∀ c, l.head? = some c → p c = false
theorem take_word {p : UInt8 → Bool} {w l : List UInt8} (ha : ∀ c ∈ w, p c = true) (hl : NoHead p l) : (w ++ l).takeWhile p = w ∧ (w ++ l).dropWhile p = l := by
 rw [List.takeWhile_append_of_pos ha, List.dropWhile_append_of_pos ha]
 cases l with
 | nil => simp
 | cons c l =>
  have := hl c rfl
  simp [List.takeWhile_cons, List.dropWhile_cons, this]
theorem let_class {c : UInt8} (h : isLet c = true) : isWhite c = false ∧ isSign c = false := by
 simp only [isLet, isWhite, isSign, decide_eq_true_eq, decide_eq_false_iff_not] at *
 omega
theorem num_class {c : UInt8} (h : (decide (c.toNat = 45) || isDig c) = true) : isWhite c = false ∧ isSign c = false ∧ isLet c = false := by
 simp only [isLet, isWhite, isSign, isDig, Bool.or_eq_true, decide_eq_true_eq, decide_eq_false_iff_not] at *
 omega
theorem Spl.word {w l : List UInt8} {ws : List ByteArray} (hw : w ≠ []) (ha : ∀ c ∈ w, isLet c = true) (hl : NoHead isLet l) (hs : Spl l ws) : Spl (w ++ l) (⟨w.toArray⟩ :: ws) := by
 cases w with
 | nil => exact absurd rfl hw
 | cons c w =>
  have hc := ha c (by simp)
  obtain ⟨h1, h2⟩ := let_class hc
  obtain ⟨e1, e2⟩ := take_word (w := w) (l := l) (fun x hx => ha x (by simp [hx])) hl
  unfold Spl at *
  rw [List.cons_append, List.length_cons, splitF, if_neg (by simp [h1]), if_neg (by simp [h2]), if_pos hc, e1, e2, splitF_stable _ l.length l (by simp) (Nat.le_refl _), hs]
  rfl
theorem Spl.num {w l : List UInt8} {ws : List ByteArray} {c : UInt8} (hc : (decide (c.toNat = 45) || isDig c) = true) (ha : ∀ c ∈ w, isDig c = true) (hl : NoHead isDig l) (hs : Spl l ws) : Spl (c :: w ++ l) (⟨(c :: w).toArray⟩ :: ws) := by
 obtain ⟨h1, h2, h3⟩ := num_class hc
 obtain ⟨e1, e2⟩ := take_word (w := w) (l := l) ha hl
 unfold Spl at *
 rw [List.cons_append, List.length_cons, splitF, if_neg (by simp [h1]), if_neg (by simp [h2]), if_neg (by simp [h3]), if_pos hc, e1, e2, splitF_stable _ l.length l (by simp) (Nat.le_refl _), hs]
 rfl
theorem decDigits_dig : ∀ (u : Nat), (∀ c ∈ Lib.decDigits u, isDig c = true) ∧ Lib.decDigits u ≠ [] := by
 intro u
 induction u using Nat.strongRecOn with
 | ind u ih =>
  rw [Lib.decDigits]
  split
  ·rename_i h
   refine ⟨fun c hc => ?_, by simp⟩
   simp only [List.mem_singleton] at hc
   subst hc
   simp only [isDig, decide_eq_true_eq, UInt8.toNat_ofNat']
   omega
  ·rename_i h
   refine ⟨fun c hc => ?_, by simp⟩
   rcases List.mem_append.1 hc with hc | hc
   ·exact (ih (u / 10) (by omega)).1 c hc
   ·simp only [List.mem_singleton] at hc
    subst hc
    simp only [isDig, decide_eq_true_eq, UInt8.toNat_ofNat']
    omega
theorem itoa_form (n : Int) : ∃ c w, Lib.itoa n = c :: w ∧ (decide (c.toNat = 45) || isDig c) = true ∧ ∀ x ∈ w, isDig x = true := by
 unfold Lib.itoa
 split
 ·exact ⟨45, _, rfl, rfl, fun x hx => (decDigits_dig _).1 x hx⟩
 ·obtain ⟨ha, hn⟩ := decDigits_dig n.toNat
  cases h : Lib.decDigits n.toNat with
  | nil => exact absurd h hn
  | cons c w =>
   rw [h] at ha
   exact ⟨c, w, rfl, by rw [ha c (by simp), Bool.or_true], fun x hx => ha x (by simp [hx])⟩
theorem decFrom_append (acc : Nat) : ∀ (l m : List UInt8), Lib.decFrom acc (l ++ m) = (Lib.decFrom acc l).bind (Lib.decFrom · m) := by
 intro l
 induction l generalizing acc with
 | nil => intro m; rfl
 | cons c l ih =>
  intro m
  simp only [List.cons_append, Lib.decFrom]
  cases Lib.digitVal c with
  | none => rfl
  | some d => exact ih _ m
theorem digitVal_of (d : Nat) (h : d < 10) : Lib.digitVal (UInt8.ofNat (48 + d)) = some d := by
 unfold Lib.digitVal
 have e : (UInt8.ofNat (48 + d)).toNat = 48 + d := by simp only [UInt8.toNat_ofNat']; omega
 rw [e, if_pos (by omega)]
 congr 1; omega
theorem decFrom_digits (u : Nat) : Lib.decFrom 0 (Lib.decDigits u) = some u := by
 induction u using Nat.strongRecOn with
 | ind u ih =>
  rw [Lib.decDigits]
  split
  ·rename_i h
   simp only [Lib.decFrom, digitVal_of u h]
   simp
  ·rename_i h
   rw [decFrom_append, ih (u / 10) (by omega)]
   simp only [Option.bind_some, Lib.decFrom, digitVal_of (u % 10) (Nat.mod_lt _ (by decide))]
   simp only [Option.some.injEq]
   omega
theorem decDigits_len : ∀ (k u : Nat), u < 10 ^ (k + 1) → (Lib.decDigits u).length ≤ k + 1
 | 0, u, h => by rw [Lib.decDigits, dif_pos (by simpa using h)]; simp
 | k + 1, u, h => by
  rw [Lib.decDigits]
  split
  ·simp
  ·have := decDigits_len k (u / 10) (by rw [Nat.pow_succ] at h; omega)
   simp only [List.length_append, List.length_singleton]
   omega
theorem itoa_len {n : Int} (h1 : -1099511627776 ≤ n) (h2 : n ≤ 1099511627776) : (Lib.itoa n).length ≤ 14 := by
 unfold Lib.itoa
 split
 ·have := decDigits_len 12 n.natAbs (by omega)
  simp only [List.length_cons]; omega
 ·have := decDigits_len 12 n.toNat (by omega)
  omega
theorem atoi_itoa (n : Int) : Lib.atoi (Lib.itoa n) = some n := by
 unfold Lib.itoa
 split
 ·rename_i h
  obtain ⟨_, hn⟩ := decDigits_dig n.natAbs
  have hd := decFrom_digits n.natAbs
  simp only [Lib.atoi, Lib.decNat]
  cases hq : Lib.decDigits n.natAbs with
  | nil => exact absurd hq hn
  | cons c w =>
   rw [hq] at hd
   simp [hd]
   omega
 ·rename_i h
  obtain ⟨ha, hn⟩ := decDigits_dig n.toNat
  have hd := decFrom_digits n.toNat
  cases hq : Lib.decDigits n.toNat with
  | nil => exact absurd hq hn
  | cons c w =>
   rw [hq] at hd ha
   have hc := ha c (by simp)
   simp only [isDig, decide_eq_true_eq] at hc
   have h45 : c.toNat ≠ 45 := by omega
   have h43 : c.toNat ≠ 43 := by omega
   have b45 : (c == 45) = false := by
    cases hb : c == 45 with
    | false => rfl
    | true => exact absurd (congrArg UInt8.toNat (eq_of_beq hb)) h45
   have b43 : (c == 43) = false := by
    cases hb : c == 43 with
    | false => rfl
    | true => exact absurd (congrArg UInt8.toNat (eq_of_beq hb)) h43
   simp only [Lib.atoi, Lib.decNat, hd, b45, b43, Bool.false_eq_true, if_false, List.isEmpty_cons, Option.map_some, Option.some.injEq]
   omega
end Go.Proofs.YtfobdbhmfohfnaaGreatDoor
namespace Go.Proofs.YtfobdbhmfohfnaaGreatDoor
def numB (n : Int) : ByteArray := ⟨(Lib.itoa n).toArray⟩
theorem numW_num {n : Int} (h1 : -1099511627776 ≤ n) (h2 : n ≤ 1099511627776) : numW (numB n) = some n := by
 have hl := itoa_len h1 h2
 have hb : bytes (numB n) = Lib.itoa n := rfl
 unfold numW
 rw [hb, Lib.atoiAll_short _ (by omega), atoi_itoa]
 show (if _ then some n else none) = some n
 rw [if_pos ⟨rfl, h1, h2⟩]
def WordP (s : ByteArray) : Prop := bytes s ≠ [] ∧ ∀ c ∈ bytes s, isLet c = true
theorem ba_bytes (s : ByteArray) : (⟨(bytes s).toArray⟩ : ByteArray) = s := by
 obtain ⟨⟨l⟩⟩ := s; rfl
theorem isW_word {s : ByteArray} (h : WordP s) : isW s = true := by
 obtain ⟨hn, ha⟩ := h
 unfold isW
 cases hb : bytes s with
 | nil => exact absurd hb hn
 | cons c l => exact ha c (by rw [hb]; simp)
theorem word_named {s : ByteArray} (h : namedF s = true) : WordP s := by
 unfold namedF at h
 simp only [Bool.and_eq_true, decide_eq_true_eq, List.all_eq_true] at h
 refine ⟨fun e => ?_, fun c hc => ?_⟩
 ·have : (bytes s).length = s.size := rfl
  rw [e] at this
  have := h.1.2.1
  simp at *; omega
 ·have := h.1.1 c hc
  simpa [isLet] using this
theorem named_len {s : ByteArray} (h : namedF s = true) : (bytes s).length ≤ 12 := by
 unfold namedF at h
 simp only [Bool.and_eq_true, decide_eq_true_eq] at h
 exact h.1.2.2
theorem named_word {s : ByteArray} (h : namedF s = true) : hasS wordsL s = false := by
 unfold namedF at h
 simp only [Bool.and_eq_true] at h
 simpa using h.2
theorem word_ne {s : ByteArray} (h : WordP s) {c : UInt8} {l : List UInt8} (hc : isLet c = false) : s ≠ ⟨(c :: l).toArray⟩ := by
 rintro rfl
 have := h.2 c (by show c ∈ (c :: l); simp)
 rw [hc] at this; cases this
theorem num_ne (n : Int) {c : UInt8} {l : List UInt8} (hc : (decide (c.toNat = 45) || isDig c) = false) : numB n ≠ ⟨(c :: l).toArray⟩ := by
 intro h
 obtain ⟨d, w, e, hd, _⟩ := itoa_form n
 have h2 : Lib.itoa n = c :: l := congrArg bytes h
 rw [e] at h2
 injection h2 with h3 h4
 rw [h3, hc] at hd; cases hd
theorem noHead_cons {p : UInt8 → Bool} {c : UInt8} {l : List UInt8} (h : p c = false) : NoHead p (c :: l) := fun x hx => by
 simp only [List.head?_cons, Option.some.injEq] at hx; rw [← hx]; exact h
theorem Spl.wordS {s : ByteArray} {l : List UInt8} {ws : List ByteArray} (h : WordP s) (hl : NoHead isLet l) (hs : Spl l ws) : Spl (bytes s ++ l) (s :: ws) := by
 have := Spl.word h.1 h.2 hl hs
 rwa [ba_bytes] at this
theorem Spl.numS {n : Int} {l : List UInt8} {ws : List ByteArray} (hl : NoHead isDig l) (hs : Spl l ws) : Spl (Lib.itoa n ++ l) (numB n :: ws) := by
 obtain ⟨c, w, e, hc, ha⟩ := itoa_form n
 unfold numB
 rw [e]
 exact Spl.num hc ha hl hs
def tokItem (x : ItemD) : List ByteArray := [numB x.n, x.name, wEnd]
def tokField (f : FieldD) : List ByteArray := [numB f.id, ruleName f, kindName f, f.name, wEnd]
def tokGone (l : List Int) : List ByteArray := if l.length = 0 then [] else wGone :: (l.map numB ++ [wEnd])
def tokType (t : TypeD) : List ByteArray :=
 if t.enum then [wEnum, t.name, wOpen] ++ t.items.flatMap tokItem ++ [wShut]
 else [wMessage, t.name, wOpen] ++ t.fields.flatMap tokField ++ tokGone t.gone ++ [wShut]
theorem spl_item {x : ItemD} (h : WordP x.name) {l : List UInt8} {ws : List ByteArray} (hs : Spl l ws) : Spl (printItem x ++ l) (tokItem x ++ ws) := by
 have h1 : Spl ([59, 10] ++ l) (wEnd :: ws) := Spl.sign rfl rfl (Spl.white rfl hs)
 have h2 := Spl.wordS h (noHead_cons rfl) h1
 have h3 : Spl (Lib.itoa x.n ++ (32 :: (bytes x.name ++ ([59, 10] ++ l)))) (numB x.n :: x.name :: wEnd :: ws) := Spl.numS (noHead_cons rfl) (Spl.white rfl h2)
 have h4 := Spl.white (c := 32) rfl (Spl.white (c := 32) rfl h3)
 unfold printItem tokItem
 simpa [List.append_assoc] using h4
theorem spl_field {f : FieldD} (hr : WordP (ruleName f)) (hk : WordP (kindName f)) (h : WordP f.name) {l : List UInt8} {ws : List ByteArray} (hs : Spl l ws) : Spl (printField f ++ l) (tokField f ++ ws) := by
 have h1 : Spl ([59, 10] ++ l) (wEnd :: ws) := Spl.sign rfl rfl (Spl.white rfl hs)
 have h2 := Spl.white (c := 32) rfl (Spl.wordS h (noHead_cons rfl) h1)
 have h3 := Spl.white (c := 32) rfl (Spl.wordS hk (noHead_cons rfl) h2)
 have h4 := Spl.white (c := 32) rfl (Spl.wordS hr (noHead_cons rfl) h3)
 have h5 := Spl.white (c := 32) rfl (Spl.white (c := 32) rfl (Spl.numS (n := f.id) (noHead_cons rfl) h4))
 unfold printField tokField
 simpa [List.append_assoc] using h5
theorem spl_flat {α : Type} {p : α → List UInt8} {t : α → List ByteArray} : ∀ (xs : List α) (_ : ∀ x ∈ xs, ∀ l ws, Spl l ws → Spl (p x ++ l) (t x ++ ws)) {l : List UInt8} {ws : List ByteArray} (_ : Spl l ws), Spl (xs.flatMap p ++ l) (xs.flatMap t ++ ws)
 | [], _, _, _, hs => hs
 | x :: xs, h, l, ws, hs => by
  rw [List.flatMap_cons, List.flatMap_cons, List.append_assoc, List.append_assoc]
  exact h x (by simp) _ _ (spl_flat xs (fun y hy => h y (by simp [hy])) hs)
theorem spl_nums : ∀ (gs : List Int) {l : List UInt8} {ws : List ByteArray} (_ : NoHead isDig l) (_ : Spl l ws), NoHead isDig (gs.flatMap (fun n => 32 :: Lib.itoa n) ++ l) ∧ Spl (gs.flatMap (fun n => 32 :: Lib.itoa n) ++ l) (gs.map numB ++ ws)
 | [], _, _, hn, hs => ⟨hn, hs⟩
 | g :: gs, l, ws, hn, hs => by
  obtain ⟨a, b⟩ := spl_nums gs hn hs
  rw [List.flatMap_cons, List.map_cons, List.append_assoc, List.cons_append, List.cons_append]
  exact ⟨noHead_cons rfl, Spl.white rfl (Spl.numS a b)⟩
theorem word_gone : WordP wGone := ⟨by decide, by decide⟩
theorem word_message : WordP wMessage := ⟨by decide, by decide⟩
theorem word_enum : WordP wEnum := ⟨by decide, by decide⟩
theorem spl_gone (gs : List Int) {l : List UInt8} {ws : List ByteArray} (hs : Spl l ws) : Spl (printGone gs ++ l) (tokGone gs ++ ws) := by
 unfold printGone tokGone
 by_cases h : gs.length = 0
 ·rw [if_pos h, if_pos h]; exact hs
 ·rw [if_neg h, if_neg h]
  have h1 : Spl ([59, 10] ++ l) (wEnd :: ws) := Spl.sign rfl rfl (Spl.white rfl hs)
  obtain ⟨_, h2⟩ := spl_nums gs (noHead_cons (by decide)) h1
  have hh : NoHead isLet (gs.flatMap (fun n => 32 :: Lib.itoa n) ++ ([59, 10] ++ l)) := by
   cases gs with
   | nil => exact absurd rfl h
   | cons g gs => rw [List.flatMap_cons, List.append_assoc, List.cons_append]; exact noHead_cons rfl
  have h3 := Spl.white (c := 32) rfl (Spl.white (c := 32) rfl (Spl.wordS word_gone hh h2))
  have e : bytes wGone = [103, 111, 110, 101] := rfl
  rw [e] at h3
  simpa [List.append_assoc] using h3
def TypeWords (t : TypeD) : Prop := WordP t.name ∧ (∀ x ∈ t.items, WordP x.name) ∧ ∀ f ∈ t.fields, WordP (ruleName f) ∧ WordP (kindName f) ∧ WordP f.name
theorem spl_type {t : TypeD} (h : TypeWords t) {l : List UInt8} {ws : List ByteArray} (hs : Spl l ws) : Spl (printType t ++ l) (tokType t ++ ws) := by
 obtain ⟨hn, hi, hf⟩ := h
 have h1 : Spl ([125, 10] ++ l) (wShut :: ws) := Spl.sign rfl rfl (Spl.white rfl hs)
 unfold printType tokType
 cases t.enum with
 | true =>
  have h2 := spl_flat t.items (fun x hx l ws h => spl_item (hi x hx) h) h1
  have h3 : Spl ([32, 123, 10] ++ (t.items.flatMap printItem ++ ([125, 10] ++ l))) (wOpen :: (t.items.flatMap tokItem ++ wShut :: ws)) := Spl.white rfl (Spl.sign rfl rfl (Spl.white rfl h2))
  have h4 := Spl.wordS word_enum (noHead_cons rfl) (Spl.white (c := 32) rfl (Spl.wordS hn (noHead_cons rfl) h3))
  simpa [List.append_assoc] using h4
 | false =>
  have h2 := spl_flat t.fields (fun f hx l ws h => spl_field (hf f hx).1 (hf f hx).2.1 (hf f hx).2.2 h) (spl_gone t.gone h1)
  have h3 : Spl ([32, 123, 10] ++ (t.fields.flatMap printField ++ (printGone t.gone ++ ([125, 10] ++ l)))) (wOpen :: (t.fields.flatMap tokField ++ (tokGone t.gone ++ wShut :: ws))) := Spl.white rfl (Spl.sign rfl rfl (Spl.white rfl h2))
  have h4 := Spl.wordS word_message (noHead_cons rfl) (Spl.white (c := 32) rfl (Spl.wordS hn (noHead_cons rfl) h3))
  simpa [List.append_assoc] using h4
theorem spl_book (b : BookD) (h : ∀ t ∈ b, TypeWords t) : Spl (b.flatMap printType) (b.flatMap tokType) := by
 have := spl_flat b (fun t ht l ws hs => spl_type (h t ht) hs) Spl.nil
 simpa using this
end Go.Proofs.YtfobdbhmfohfnaaGreatDoor
namespace Go.Proofs.YtfobdbhmfohfnaaGreatDoor
theorem rd_word {s : ByteArray} (h : WordP s) (l : List ByteArray) : (Rd.mk (s :: l) false).word = (s, ⟨l, false⟩) := by
 show (s, if isW s then _ else _) = _
 rw [isW_word h]; rfl
theorem rd_number {n : Int} (h1 : -1099511627776 ≤ n) (h2 : n ≤ 1099511627776) (l : List ByteArray) : (Rd.mk (numB n :: l) false).number = (n, ⟨l, false⟩) := by
 show (match numW (numB n) with | some n => _ | none => _) = _
 rw [numW_num h1 h2]; rfl
theorem rd_take (s : ByteArray) (l : List ByteArray) : (Rd.mk (s :: l) false).take s = ⟨l, false⟩ := by
 show (if s = s then _ else _) = _
 rw [if_pos rfl]; rfl
theorem rd_at_ne {s x : ByteArray} (h : x ≠ s) (l : List ByteArray) (bad : Bool) : (Rd.mk (x :: l) bad).at_ s = false := by
 show decide (x = s) = false
 simpa using h
theorem rd_at (s : ByteArray) (l : List ByteArray) (bad : Bool) : (Rd.mk (s :: l) bad).at_ s = true := by
 show decide (s = s) = true
 simp
theorem num_shut (n : Int) : numB n ≠ wShut := num_ne n (c := 125) (l := []) rfl
theorem num_end (n : Int) : numB n ≠ wEnd := num_ne n (c := 59) (l := []) rfl
theorem num_gone (n : Int) : numB n ≠ wGone := num_ne n (c := 103) (l := [111, 110, 101]) rfl
theorem items_read : ∀ (xs : List ItemD) (k : Nat) (acc : List ItemD) (rest : List ByteArray), xs.length + 1 ≤ k → (∀ x ∈ xs, WordP x.name ∧ -1099511627776 ≤ x.n ∧ x.n ≤ 1099511627776) →
  itemsF k ⟨xs.flatMap tokItem ++ wShut :: rest, false⟩ acc = (acc ++ xs, ⟨wShut :: rest, false⟩)
 | [], k + 1, acc, rest, _, _ => by
  rw [itemsF, if_neg]
  ·simp
  ·rintro ⟨_, h⟩
   rw [show (Rd.mk ([].flatMap tokItem ++ wShut :: rest) false).at_ wShut = true from rd_at _ _ _] at h
   cases h
 | x :: xs, k + 1, acc, rest, hk, h => by
  obtain ⟨hw, h1, h2⟩ := h x (by simp)
  have hk' : xs.length + 1 ≤ k := by simpa using hk
  have e : (x :: xs).flatMap tokItem ++ wShut :: rest = numB x.n :: x.name :: wEnd :: (xs.flatMap tokItem ++ wShut :: rest) := by
   rw [List.flatMap_cons]; rfl
  rw [e, itemsF, if_pos ⟨rfl, rd_at_ne (num_shut _) _ _⟩, rd_number h1 h2, rd_word hw, rd_take, items_read xs k _ rest hk' (fun y hy => h y (by simp [hy]))]
  simp
theorem gone_read : ∀ (gs : List Int) (k : Nat) (acc : List Int) (rest : List ByteArray), gs.length + 1 ≤ k → (∀ g ∈ gs, -1099511627776 ≤ g ∧ g ≤ 1099511627776) →
  goneRF k ⟨gs.map numB ++ wEnd :: rest, false⟩ acc = (acc ++ gs, ⟨wEnd :: rest, false⟩)
 | [], k + 1, acc, rest, _, _ => by
  rw [goneRF, if_neg]
  ·simp
  ·rintro ⟨_, h⟩
   rw [show (Rd.mk ([].map numB ++ wEnd :: rest) false).at_ wEnd = true from rd_at _ _ _] at h
   cases h
 | g :: gs, k + 1, acc, rest, hk, h => by
  obtain ⟨h1, h2⟩ := h g (by simp)
  have hk' : gs.length + 1 ≤ k := by simpa using hk
  rw [List.map_cons, List.cons_append, goneRF, if_pos ⟨rfl, rd_at_ne (num_end _) _ _⟩, rd_number h1 h2, gone_read gs k _ rest hk' (fun y hy => h y (by simp [hy]))]
  simp
def rawField (f : FieldD) : FieldD := { f with kind := if 4 ≤ f.kind then 0 else f.kind }
def FieldOk (f : FieldD) : Prop := WordP f.name ∧ 1 ≤ f.id ∧ f.id ≤ 30 ∧ 1 ≤ f.kind ∧ f.kind ≤ 5 ∧ 1 ≤ f.rule ∧ f.rule ≤ 3 ∧ (f.kind < 4 → f.type = ⟨#[]⟩) ∧ (4 ≤ f.kind → WordP f.type ∧ hasS wordsL f.type = false)
theorem rule_cases {f : FieldD} (h : FieldOk f) : WordP (ruleName f) ∧ idxS rulesL (ruleName f) = f.rule := by
 obtain ⟨_, _, _, _, _, h1, h3, _⟩ := h
 have : f.rule = 1 ∨ f.rule = 2 ∨ f.rule = 3 := by omega
 unfold ruleName
 rcases this with e | e | e <;> rw [e]
 ·exact ⟨⟨by decide, by decide⟩, by decide⟩
 ·exact ⟨⟨by decide, by decide⟩, by decide⟩
 ·exact ⟨⟨by decide, by decide⟩, by decide⟩
theorem kinds_none {s : ByteArray} (h : WordP s) (hn : hasS wordsL s = false) : idxS kindsL s = -1 := by
 have hx : ∀ y ∈ wordsL, y ≠ s := fun y hy e => by
  have : hasS wordsL s = true := List.any_eq_true.2 ⟨y, hy, by simpa using e⟩
  rw [hn] at this; cases this
 refine idxS_none fun j hj => ?_
 have hj4 : j < 4 := hj
 have : j = 0 ∨ j = 1 ∨ j = 2 ∨ j = 3 := by omega
 rcases this with rfl | rfl | rfl | rfl
 ·intro e; exact h.1 (by rw [← e]; rfl)
 ·exact hx wBool (by simp [wordsL, wBool])
 ·exact hx wInt (by simp [wordsL, wInt])
 ·exact hx wText (by simp [wordsL, wText])
theorem kind_cases {f : FieldD} (h : FieldOk f) : WordP (kindName f) ∧ (if 0 < idxS kindsL (kindName f) then (⟨#[]⟩ : ByteArray) else kindName f) = f.type ∧ (if 0 < idxS kindsL (kindName f) then idxS kindsL (kindName f) else 0) = (rawField f).kind := by
 obtain ⟨_, _, _, h1, h5, _, _, hs, hm⟩ := h
 unfold kindName rawField
 by_cases h4 : f.kind < 4
 ·rw [if_pos h4, hs h4]
  have : f.kind = 1 ∨ f.kind = 2 ∨ f.kind = 3 := by omega
  dsimp only
  rw [if_neg (show ¬ 4 ≤ f.kind by omega)]
  rcases this with e | e | e <;> rw [e]
  ·exact ⟨⟨by decide, by decide⟩, by decide, by decide⟩
  ·exact ⟨⟨by decide, by decide⟩, by decide, by decide⟩
  ·exact ⟨⟨by decide, by decide⟩, by decide, by decide⟩
 ·obtain ⟨hw, hn⟩ := hm (by omega)
  rw [if_neg h4, kinds_none hw hn]
  dsimp only
  rw [if_pos (show 4 ≤ f.kind by omega)]
  exact ⟨hw, by rw [if_neg (by decide)], by decide⟩
theorem field_read {f : FieldD} (h : FieldOk f) (rest : List ByteArray) : fieldRF ⟨tokField f ++ rest, false⟩ = (rawField f, ⟨wEnd :: rest, false⟩) := by
 obtain ⟨hr, er⟩ := rule_cases h
 obtain ⟨hk, et, ek⟩ := kind_cases h
 obtain ⟨hw, h1, h30, _, _, hr1, hr3, _⟩ := h
 have e : tokField f ++ rest = numB f.id :: ruleName f :: kindName f :: f.name :: wEnd :: rest := rfl
 unfold fieldRF
 rw [e, rd_number (by omega) (by omega)]
 dsimp only
 have e2 : (Rd.mk (ruleName f :: kindName f :: f.name :: wEnd :: rest) false).next = (ruleName f, ⟨kindName f :: f.name :: wEnd :: rest, false⟩) := rfl
 rw [e2]
 dsimp only
 rw [rd_word hk]
 dsimp only
 rw [rd_word hw]
 dsimp only
 rw [et, ek, er]
 have : decide (f.rule < 1) = false := by simp; omega
 rw [this]
 rfl
theorem lines_read : ∀ (fs : List FieldD) (k : Nat) (af : List FieldD) (ag : List Int) (rest : List ByteArray), fs.length ≤ k → (∀ f ∈ fs, FieldOk f) →
  linesF k ⟨fs.flatMap tokField ++ rest, false⟩ af ag = linesF (k - fs.length) ⟨rest, false⟩ (af ++ fs.map rawField) ag
 | [], k, af, ag, rest, _, _ => by simp
 | f :: fs, k + 1, af, ag, rest, hk, h => by
  have hk' : fs.length ≤ k := by simpa using hk
  have e : (f :: fs).flatMap tokField ++ rest = tokField f ++ (fs.flatMap tokField ++ rest) := by rw [List.flatMap_cons, List.append_assoc]
  have e2 : tokField f ++ (fs.flatMap tokField ++ rest) = numB f.id :: (ruleName f :: kindName f :: f.name :: wEnd :: (fs.flatMap tokField ++ rest)) := rfl
  rw [e, linesF, if_pos ⟨rfl, by rw [e2]; exact rd_at_ne (num_shut _) _ _⟩, if_neg (by rw [e2, rd_at_ne (num_gone _)]; simp), field_read (h f (by simp)), rd_take, lines_read fs k _ _ rest hk' (fun y hy => h y (by simp [hy]))]
  simp [Nat.add_sub_add_right]
theorem gone_len (gs : List Int) (rest : List ByteArray) (k : Nat) : gs.length ≤ (tokGone gs ++ wShut :: rest).length := by
 unfold tokGone
 split <;> simp <;> omega
theorem linesP_gone (gs : List Int) (k : Nat) (af : List FieldD) (rest : List ByteArray) (hk : 2 ≤ k) (h : ∀ g ∈ gs, -1099511627776 ≤ g ∧ g ≤ 1099511627776) :
  linesF k ⟨tokGone gs ++ wShut :: rest, false⟩ af [] = (af, gs, ⟨wShut :: rest, false⟩) := by
 obtain ⟨k, rfl⟩ : ∃ j, k = j + 2 := ⟨k - 2, by omega⟩
 have hend : ∀ (j : Nat) (ag : List Int), linesF (j + 1) ⟨wShut :: rest, false⟩ af ag = (af, ag, ⟨wShut :: rest, false⟩) := fun j ag => by
  rw [linesF, if_neg]
  rintro ⟨_, h⟩
  rw [rd_at] at h; cases h
 unfold tokGone
 by_cases h0 : gs.length = 0
 ·obtain rfl : gs = [] := List.eq_nil_of_length_eq_zero h0
  rw [if_pos h0, List.nil_append]
  exact hend _ _
 ·rw [if_neg h0]
  have e : wGone :: (gs.map numB ++ [wEnd]) ++ wShut :: rest = wGone :: (gs.map numB ++ wEnd :: (wShut :: rest)) := by simp
  rw [e, linesF, if_pos ⟨rfl, rd_at_ne (by decide) _ _⟩, if_pos (rd_at _ _ _)]
  have e2 : (Rd.mk (wGone :: (gs.map numB ++ wEnd :: (wShut :: rest))) false).next.2 = ⟨gs.map numB ++ wEnd :: (wShut :: rest), false⟩ := rfl
  rw [e2, gone_read gs _ [] _ (by simp; omega) h]
  dsimp only
  rw [rd_take, List.nil_append]
  exact hend _ _
theorem sortS_sorted {α : Type} {lt : α → α → Bool} : ∀ (l : List α), (∀ i (h : i + 1 < l.length), lt l[i + 1] l[i] = false) → sortS lt l = l := by
 intro l h
 have key : ∀ (m : List α) (acc : List α), (∀ i (h : i + 1 < (acc.reverse ++ m).length), lt (acc.reverse ++ m)[i + 1] (acc.reverse ++ m)[i] = false) → m.foldl (fun a x => insR lt x a) acc = m.reverse ++ acc := by
  intro m
  induction m with
  | nil => intro acc _; rfl
  | cons x m ih =>
   intro acc ha
   have hx : insR lt x acc = x :: acc := by
    cases acc with
    | nil => rfl
    | cons y acc =>
     have hl : acc.length + 1 < ((y :: acc).reverse ++ x :: m).length := by simp
     have := ha acc.length hl
     have e1 : ((y :: acc).reverse ++ x :: m)[acc.length + 1] = x := by
      rw [List.getElem_append_right (by simp)]
      simp
     have e0 : ((y :: acc).reverse ++ x :: m)[acc.length] = y := by
      rw [List.getElem_append_left (by simp)]
      simp
     rw [e1, e0] at this
     rw [insR, this]; rfl
   rw [List.foldl_cons, hx, ih (x :: acc) (by simpa using ha)]
   simp
 have := key l [] (by simpa using h)
 unfold sortS
 rw [this]
 simp
end Go.Proofs.YtfobdbhmfohfnaaGreatDoor
namespace Go.Proofs.YtfobdbhmfohfnaaGreatDoor
theorem good_fieldOk {b : BookD} (hg : goodF b = 0) {t : TypeD} (ht : t ∈ b) (he : t.enum = false) {f : FieldD} (hf : f ∈ t.fields) : FieldOk f := by
 obtain ⟨hn, h1, h30, hk1, hk5, hr1, hr3, hk⟩ := msg_field (good_msg hg ht he) hf
 refine ⟨word_named hn, h1, h30, hk1, hk5, hr1, hr3, fun h4 => ?_, fun h4 => ?_⟩
 ·have h0 : (bytes f.type).length = 0 := hk.1 h4
  exact ba_of (List.eq_nil_of_length_eq_zero h0)
 ·obtain ⟨hs, _⟩ := hk.2 h4
  obtain ⟨t2, h2⟩ := Option.isSome_iff_exists.1 hs
  unfold findT at h2
  have hm := List.mem_of_find?_eq_some h2
  have hq := List.find?_some h2
  simp only [decide_eq_true_eq] at hq
  obtain ⟨_, hT, _⟩ := good_parts hg
  obtain ⟨i, hi, rfl⟩ := List.getElem_of_mem hm
  have hn2 := (hT i hi).1
  rw [hq] at hn2
  exact ⟨word_named hn2, named_word hn2⟩
theorem good_words {b : BookD} (hg : goodF b = 0) : ∀ t ∈ b, TypeWords t := by
 intro t ht
 obtain ⟨_, hT, _⟩ := good_parts hg
 obtain ⟨i, hi, rfl⟩ := List.getElem_of_mem ht
 obtain ⟨hn, _, _⟩ := hT i hi
 refine ⟨word_named hn, fun x hx => ?_, fun f hf => ?_⟩
 ·cases he : b[i].enum with
  | true =>
   obtain ⟨k, hk, rfl⟩ := List.getElem_of_mem hx
   exact word_named ((good_enum hg ht he).1 k hk).1
  | false =>
   have := (good_msg hg ht he).2.1
   rw [List.eq_nil_of_length_eq_zero this] at hx; cases hx
 ·cases he : b[i].enum with
  | true =>
   have := (good_enum hg ht he).2.2.2.1
   rw [List.eq_nil_of_length_eq_zero this] at hf; cases hf
  | false =>
   have hf' := good_fieldOk hg ht he hf
   exact ⟨(rule_cases hf').1, (kind_cases hf').1, hf'.1⟩
def rawType (t : TypeD) : TypeD := { t with fields := t.fields.map rawField }
theorem len_ge {α : Type} (l m : List α) : m.length ≤ (l ++ m).length := by simp
theorem type_read {b : BookD} (hg : goodF b = 0) {t : TypeD} (ht : t ∈ b) (rest : List ByteArray) (k : Nat) (acc : List TypeD) :
  typesRF (k + 1) ⟨tokType t ++ rest, false⟩ acc = typesRF k ⟨rest, false⟩ (acc ++ [rawType t]) := by
 obtain ⟨hn, hi, hf⟩ := good_words hg t ht
 cases he : t.enum with
 | true =>
  obtain ⟨hit, _, _, hfl, hgl⟩ := good_enum hg ht he
  have hfn : t.fields = [] := List.eq_nil_of_length_eq_zero hfl
  have hgn : t.gone = [] := List.eq_nil_of_length_eq_zero hgl
  have e : tokType t ++ rest = wEnum :: t.name :: wOpen :: (t.items.flatMap tokItem ++ wShut :: rest) := by unfold tokType; rw [he]; simp
  rw [e, typesRF, if_pos ⟨by simp, rfl⟩]
  have e2 : (Rd.mk (wEnum :: t.name :: wOpen :: (t.items.flatMap tokItem ++ wShut :: rest)) false).next = (wEnum, ⟨t.name :: wOpen :: (t.items.flatMap tokItem ++ wShut :: rest), false⟩) := rfl
  rw [e2]
  dsimp only
  have e3 : enumRF ⟨t.name :: wOpen :: (t.items.flatMap tokItem ++ wShut :: rest), false⟩ = (rawType t, ⟨rest, false⟩) := by
   unfold enumRF
   rw [rd_word hn]
   dsimp only
   rw [rd_take, items_read t.items _ [] rest (by
    have : t.items.length ≤ (t.items.flatMap tokItem).length := by
     rw [List.length_flatMap]
     clear hit hi e e2
     induction t.items with
     | nil => simp
     | cons x xs ih => simp only [List.map_cons, List.sum_cons, List.length_cons]; have : (tokItem x).length = 3 := rfl; omega
    simp only [List.length_append, List.length_cons]; omega) (fun x hx => by
     obtain ⟨i, h, rfl⟩ := List.getElem_of_mem hx
     exact ⟨hi _ hx, (hit i h).2.1, (hit i h).2.2.1⟩)]
   dsimp only
   rw [rd_take, List.nil_append, sortS_sorted t.items (fun i h => by
    have := (hit (i + 1) h).2.2.2.1 (by omega)
    simp only [Nat.add_sub_cancel] at this
    unfold ltItem
    simp; omega)]
   unfold rawType
   obtain ⟨a1, a2, a3, a4, a5⟩ := t
   simp only at he hfn hgn
   subst he hfn hgn
   rfl
  rw [e3, if_neg (by decide), if_pos rfl]
 | false =>
  have hm := good_msg hg ht he
  obtain ⟨h5, hil, hg30, hgone, hfs⟩ := hm
  have hin : t.items = [] := List.eq_nil_of_length_eq_zero hil
  have e : tokType t ++ rest = wMessage :: t.name :: wOpen :: (t.fields.flatMap tokField ++ (tokGone t.gone ++ wShut :: rest)) := by unfold tokType; rw [he]; simp
  rw [e, typesRF, if_pos ⟨by simp, rfl⟩]
  have e2 : (Rd.mk (wMessage :: t.name :: wOpen :: (t.fields.flatMap tokField ++ (tokGone t.gone ++ wShut :: rest))) false).next = (wMessage, ⟨t.name :: wOpen :: (t.fields.flatMap tokField ++ (tokGone t.gone ++ wShut :: rest)), false⟩) := rfl
  rw [e2]
  dsimp only
  have e3 : messageRF ⟨t.name :: wOpen :: (t.fields.flatMap tokField ++ (tokGone t.gone ++ wShut :: rest)), false⟩ = (rawType t, ⟨rest, false⟩) := by
   have hlen : t.fields.length ≤ (t.fields.flatMap tokField).length := by
    rw [List.length_flatMap]
    clear e e2 hfs h5 hf hgone
    induction t.fields with
    | nil => simp
    | cons x xs ih => simp only [List.map_cons, List.sum_cons, List.length_cons]; have : (tokField x).length = 5 := rfl; omega
   unfold messageRF
   rw [rd_word hn]
   dsimp only
   rw [rd_take, lines_read t.fields _ [] [] _ (by simp only [List.length_append]; omega) (fun f hf => good_fieldOk hg ht he hf), linesP_gone t.gone _ _ rest (by simp only [List.length_append, List.length_cons]; omega) (fun g hgm => by
    obtain ⟨i, h, rfl⟩ := List.getElem_of_mem hgm
    have := hgone i h
    omega)]
   dsimp only
   rw [rd_take, List.nil_append, sortS_sorted (t.fields.map rawField) (fun i h => by
     have h' : i + 1 < t.fields.length := by simpa using h
     have := (hfs (i + 1) h').2.1 (by omega)
     simp only [Nat.add_sub_cancel] at this
     unfold ltField
     simp only [List.getElem_map, rawField]
     simp; omega),
    sortS_sorted t.gone (fun i h => by
     have := (hgone (i + 1) h).2.2.2 (by omega)
     simp only [Nat.add_sub_cancel] at this
     unfold ltInt
     simp; omega)]
   unfold rawType
   obtain ⟨a1, a2, a3, a4, a5⟩ := t
   simp only at he hin
   subst he hin
   rfl
  rw [e3, if_pos rfl]
theorem types_read {b : BookD} (hg : goodF b = 0) : ∀ (l : List TypeD) (k : Nat) (acc : List TypeD), (∀ t ∈ l, t ∈ b) → l.length ≤ k → typesRF (k + 1) ⟨l.flatMap tokType, false⟩ acc = (acc ++ l.map rawType, ⟨[], false⟩)
 | [], k, acc, _, _ => by
  rw [typesRF, if_neg (by simp)]
  simp
 | t :: l, k + 1, acc, h, hk => by
  rw [List.flatMap_cons, type_read hg (h t (by simp)), types_read hg l k _ (fun x hx => h x (by simp [hx])) (by simpa using hk)]
  simp
theorem findT_raw : ∀ (b : BookD) (n : ByteArray), findT (b.map rawType) n = (findT b n).map rawType
 | [], _ => rfl
 | t :: b, n => by
  unfold findT at *
  have ih := findT_raw b n
  unfold findT at ih
  rw [List.map_cons, List.find?_cons, List.find?_cons, ih]
  have e : (rawType t).name = t.name := rfl
  rw [e]
  cases decide (t.name = n) <;> rfl
theorem fix_raw {b : BookD} (hg : goodF b = 0) : fixF (b.map rawType) = b := by
 unfold fixF
 rw [List.map_map]
 refine (List.map_congr_left fun t ht => ?_).trans (List.map_id' b)
 obtain ⟨tn, te, tf, tg, ti⟩ := t
 show TypeD.mk tn te ((tf.map rawField).map (fixField (b.map rawType))) tg ti = ⟨tn, te, tf, tg, ti⟩
 have : (tf.map rawField).map (fixField (b.map rawType)) = tf := by
  rw [List.map_map]
  refine (List.map_congr_left fun f hf => ?_).trans (List.map_id' tf)
  cases he : te with
  | true =>
   subst he
   have := (good_enum hg ht rfl).2.2.2.1
   have hl : tf.length = 0 := this
   rw [List.eq_nil_of_length_eq_zero hl] at hf; cases hf
  | false =>
   subst he
   obtain ⟨_, h1, h30, hk1, hk5, hr1, hr3, hk⟩ := msg_field (good_msg hg ht rfl) hf
   obtain ⟨fid, fn, fty, fk, fr⟩ := f
   simp only at hk1 hk5
   show fixField (b.map rawType) (rawField ⟨fid, fn, fty, fk, fr⟩) = ⟨fid, fn, fty, fk, fr⟩
   unfold fixField rawField
   dsimp only
   by_cases h4 : 4 ≤ fk
   ·obtain ⟨hs, he2⟩ := hk.2 h4
    simp only at hs he2
    rw [if_pos h4, if_pos rfl, findT_raw]
    obtain ⟨t2, h2⟩ := Option.isSome_iff_exists.1 hs
    rw [h2] at he2 ⊢
    simp only [Option.map_some, Option.isSome_some, Option.getD_some, Bool.true_and] at he2 ⊢
    have e : (rawType t2).enum = t2.enum := rfl
    rw [e, he2]
    by_cases h5 : fk = 4
    ·subst h5; simp
    ·have : fk = 5 := by omega
     subst this; simp
   ·rw [if_neg h4, if_neg (by omega)]
 rw [this]
theorem printF_good {b : BookD} (hg : goodF b = 0) : printF b = (b.flatMap printType, 0) := by unfold printF; rw [if_neg (by simp [hg])]
theorem sum_le {α : Type} (f : α → List UInt8) (m : Nat) : ∀ (l : List α), (∀ x ∈ l, (f x).length ≤ m) → (l.flatMap f).length ≤ l.length * m
 | [], _ => by simp
 | x :: l, h => by
  rw [List.flatMap_cons, List.length_append, List.length_cons, Nat.add_mul, Nat.one_mul]
  have := sum_le f m l (fun y hy => h y (by simp [hy]))
  have := h x (by simp)
  omega
theorem item_len {x : ItemD} (hn : namedF x.name = true) (h1 : -1099511627776 ≤ x.n) (h2 : x.n ≤ 1099511627776) : (printItem x).length ≤ 31 := by
 have := itoa_len h1 h2
 have := named_len hn
 unfold printItem
 simp only [List.length_append, List.length_cons, List.length_nil]
 omega
theorem id_len {n : Int} (h1 : 1 ≤ n) (h2 : n ≤ 30) : (Lib.itoa n).length ≤ 2 := by
 unfold Lib.itoa
 rw [if_neg (by omega)]
 exact decDigits_len 1 n.toNat (by omega)
theorem field_len {f : FieldD} (h : FieldOk f) (hn : namedF f.name = true) (ht : (bytes f.type).length ≤ 12) : (printField f).length ≤ 38 := by
 obtain ⟨_, h1, h30, hk1, hk5, hr1, hr3, _⟩ := h
 have := id_len h1 h30
 have := named_len hn
 have hr : (bytes (ruleName f)).length ≤ 5 := by
  have : f.rule = 1 ∨ f.rule = 2 ∨ f.rule = 3 := by omega
  unfold ruleName
  rcases this with e | e | e <;> rw [e] <;> decide
 have hk : (bytes (kindName f)).length ≤ 12 := by
  unfold kindName
  split
  ·have : f.kind = 1 ∨ f.kind = 2 ∨ f.kind = 3 := by omega
   rcases this with e | e | e <;> rw [e] <;> decide
  ·exact ht
 unfold printField
 simp only [List.length_append, List.length_cons, List.length_nil]
 omega
theorem type_len {b : BookD} (hg : goodF b = 0) {t : TypeD} (ht : t ∈ b) : (printType t).length ≤ 400 := by
 obtain ⟨_, hT, _⟩ := good_parts hg
 have hn : (bytes t.name).length ≤ 12 := by
  obtain ⟨i, hi, rfl⟩ := List.getElem_of_mem ht
  exact named_len (hT i hi).1
 unfold printType
 cases he : t.enum with
 | true =>
  obtain ⟨hit, _, h6, _⟩ := good_enum hg ht he
  have hs := sum_le printItem 31 t.items (fun x hx => by
   obtain ⟨i, h, rfl⟩ := List.getElem_of_mem hx
   exact item_len (hit i h).1 (hit i h).2.1 (hit i h).2.2.1)
  have h2 : t.items.length * 31 ≤ 6 * 31 := Nat.mul_le_mul_right _ h6
  have e : (bytes wEnum).length = 4 := rfl
  simp only [if_true, List.length_append, List.length_cons, List.length_nil]
  omega
 | false =>
  obtain ⟨h5, _, hg30, hgone, hfs⟩ := good_msg hg ht he
  have hs := sum_le printField 38 t.fields (fun f hf => by
   have hf' := good_fieldOk hg ht he hf
   have hfp := msg_field (good_msg hg ht he) hf
   refine field_len hf' hfp.1 ?_
   by_cases h4 : f.kind < 4
   ·rw [hf'.2.2.2.2.2.2.2.1 h4]; decide
   ·have hk := (hfp.2.2.2.2.2.2.2.2 (by omega)).1
    obtain ⟨t2, h2⟩ := Option.isSome_iff_exists.1 hk
    unfold findT at h2
    have hm := List.mem_of_find?_eq_some h2
    have hq := List.find?_some h2
    simp only [decide_eq_true_eq] at hq
    obtain ⟨i, hi, rfl⟩ := List.getElem_of_mem hm
    rw [← hq]
    exact named_len (hT i hi).1)
  have h2 : t.fields.length * 38 ≤ 5 * 38 := Nat.mul_le_mul_right _ h5
  have hgl : (printGone t.gone).length ≤ 98 := by
   unfold printGone
   split
   ·simp
   ·have hs2 := sum_le (fun n => 32 :: Lib.itoa n) 3 t.gone (fun n hn => by
     obtain ⟨i, h, rfl⟩ := List.getElem_of_mem hn
     have := hgone i h
     have := id_len (n := t.gone[i]) (by omega) (by omega)
     simp only [List.length_cons]; omega)
    have h3 : t.gone.length * 3 ≤ 30 * 3 := Nat.mul_le_mul_right _ hg30
    simp only [List.length_append, List.length_cons, List.length_nil]
    omega
  have e : (bytes wMessage).length = 7 := rfl
  simp only [Bool.false_eq_true, if_false, List.length_append, List.length_cons, List.length_nil]
  omega
theorem print_len {b : BookD} (hg : goodF b = 0) : (b.flatMap printType).length ≤ 1600 := by
 have h1 := sum_le printType 400 b (fun t ht => type_len hg ht)
 have h2 : b.length * 400 ≤ 4 * 400 := Nat.mul_le_mul_right _ (good_parts hg).1
 omega
theorem toks_len : ∀ (b : BookD), b.length ≤ (b.flatMap tokType).length
 | [] => by simp
 | t :: b => by
  have h := toks_len b
  have h4 : 4 ≤ (tokType t).length := by unfold tokType; split <;> simp <;> omega
  rw [List.flatMap_cons, List.length_append, List.length_cons]
  omega
theorem lessP : ∀ (x y : List UInt8), Op.bytesLess x y = decide (x < y)
 | [], [] => by simp [Op.bytesLess]
 | _ :: _, [] => by simp [Op.bytesLess]
 | [], _ :: _ => by simp [Op.bytesLess]
 | a :: x, b :: y => by
  rw [Op.bytesLess, lessP x y]
  simp only [List.cons_lt_cons_iff]
  by_cases h1 : a < b <;> by_cases h2 : a = b <;> by_cases h3 : x < y <;> simp [h1, h2, h3]
theorem ltS_asymP {a b : ByteArray} (h : ltS a b) : ¬ ltS b a := by
 unfold ltS at *
 rw [lessP, decide_eq_true_iff] at *
 exact fun h2 => List.lt_irrefl _ (List.lt_trans h h2)
theorem parse_print {b : BookD} (hg : goodF b = 0) : parseF (b.flatMap printType) = (b, 0) := by
 have hl := print_len hg
 have hs : splitF (b.flatMap printType).length (b.flatMap printType) = some (b.flatMap tokType) := spl_book b (good_words hg)
 obtain ⟨_, hT, _⟩ := good_parts hg
 have hbl : b.length ≤ (b.flatMap tokType).length + 1 := by
  have := toks_len b
  omega
 unfold parseF
 rw [if_neg (by omega), hs]
 dsimp only
 have ht := types_read hg b ((b.flatMap tokType).length + 1) [] (fun _ h => h) hbl
 rw [ht, List.nil_append]
 have hsort : sortS ltType (b.map rawType) = b.map rawType := sortS_sorted _ (fun i h => by
  have h' : i + 1 < b.length := by simpa using h
  have h1 := (hT (i + 1) h').2.1 (by omega)
  simp only [Nat.add_sub_cancel] at h1
  simp only [List.getElem_map]
  unfold ltType
  have e : ∀ t : TypeD, (rawType t).name = t.name := fun _ => rfl
  rw [e, e]
  simpa using ltS_asymP h1)
 dsimp only
 rw [hsort, fix_raw hg, if_neg (by simp), if_neg (by simp [hg])]
end Go.Proofs.YtfobdbhmfohfnaaGreatDoor
