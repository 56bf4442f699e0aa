/- Parts of a wire and their bytes, plainly. -/
import Derived.Test.YtaadnlopifaagaaDoorBytes
namespace Go.Proofs.YtaadnlopifaagaaDoor

structure Part where
  id : Int
  kind : Int
  n : Int
  s : ByteArray
deriving DecidableEq


def goodP (p : Part) : Bool :=
  decide (1 ≤ p.id ∧ p.id ≤ 30 ∧ -1099511627776 ≤ p.n ∧ p.n ≤ 1099511627776 ∧ p.s.size ≤ 20000) &&
    (decide (p.kind = 0 ∧ p.s.size = 0) || decide ((p.kind = 1 ∨ p.kind = 2) ∧ p.n = 0))

/-- A number, seven bits a byte. -/
def sev (n : Nat) : List UInt8 :=
  if h : n < 128 then [UInt8.ofNat n] else UInt8.ofNat (n % 128 + 128) :: sev (n / 128)
  termination_by n
  decreasing_by omega

def zig (n : Int) : Nat := if n < 0 then (-2 * n - 1).toNat else (2 * n).toNat

def encP (p : Part) : List UInt8 :=
  sev (4 * p.id + p.kind).toNat ++ (if p.kind = 0 then sev (zig p.n) else sev p.s.size ++ bytes p.s)

def encL : List Part → List UInt8 → List UInt8 × Int
  | [], acc => (acc, 0)
  | p :: l, acc => if goodP p then (if 20000 < (acc ++ encP p).length then ([], 7) else encL l (acc ++ encP p)) else ([], 1)

theorem sev_lt {n : Nat} (h : n < 128) : sev n = [UInt8.ofNat n] := by rw [sev, dif_pos h]
theorem sev_ge {n : Nat} (h : ¬ n < 128) : sev n = UInt8.ofNat (n % 128 + 128) :: sev (n / 128) := by rw [sev, dif_neg h]
theorem sev_len (k : Nat) : ∀ n, n < 128 ^ (k + 1) → (sev n).length ≤ k + 1 := by
  induction k with
  | zero => intro n h; rw [sev_lt (by simpa using h)]; simp
  | succ k ih =>
    intro n h
    by_cases hn : n < 128
    · rw [sev_lt hn]; simp
    · rw [sev_ge hn]
      have : n / 128 < 128 ^ (k + 1) := by rw [Nat.pow_succ] at h; omega
      have := ih _ this
      simp; omega
theorem sev_len10 {n : Nat} (h : n < 18446744073709551616) : (sev n).length ≤ 10 :=
  sev_len 9 n (Nat.lt_of_lt_of_le h (by decide))
theorem zig_eq (n : Int) : (if n < 0 then -2 * n - 1 else 2 * n).toNat = zig n := by unfold zig; split <;> rfl
theorem zig_neg {n : Int} (h : n < 0) : zig n = (-2 * n - 1).toNat := by unfold zig; rw [if_pos h]
theorem zig_nn {n : Int} (h : 0 ≤ n) : zig n = (2 * n).toNat := by unfold zig; rw [if_neg (by omega)]
theorem sev_len6 {n : Nat} (h : n < 4398046511104) : (sev n).length ≤ 6 := sev_len 5 n (Nat.lt_of_lt_of_le h (by decide))
theorem encP_len (p : Part) (h : goodP p = true) : (encP p).length ≤ 20012 := by
  simp [goodP] at h
  have h1 : (sev (4 * p.id + p.kind).toNat).length ≤ 6 := sev_len6 (by omega)
  have h2 : (sev (zig p.n)).length ≤ 6 := sev_len6 (by unfold zig; split <;> omega)
  have h3 : (sev p.s.size).length ≤ 6 := sev_len6 (by omega)
  have h4 : (bytes p.s).length = p.s.size := rfl
  unfold encP
  rw [List.length_append]
  split
  · omega
  · rw [List.length_append]; omega
end Go.Proofs.YtaadnlopifaagaaDoor
