/- Arithmetic on words, as the walk spells it. -/
import Derived.WalkKit
namespace Go.Proofs.Ytfichobelmabeaa
open Go.RowKit

theorem or_key (a b : Int) (h1 : 0 ≤ a) (h2 : a ≤ 30) (h3 : 0 ≤ b) (h4 : b ≤ 3) : bits .or .u64 (a * 4) b = 4 * a + b := by
  have h : ∀ i : Fin 31, ∀ j : Fin 4, bits .or .u64 ((i.val : Int) * 4) (j.val : Int) = 4 * (i.val : Int) + (j.val : Int) := by decide +kernel
  have := h ⟨a.toNat, by omega⟩ ⟨b.toNat, by omega⟩
  simp only at this
  rwa [Int.toNat_of_nonneg h1, Int.toNat_of_nonneg h3] at this

theorem xor_zig (n : Int) (h1 : -1099511627776 ≤ n) (h2 : n ≤ 1099511627776) :
    IntKind.u64.wrap (bits .xor .i64 (n * 2) (n / 9223372036854775808)) = if n < 0 then -2 * n - 1 else 2 * n := by
  by_cases h : n < 0
  · have hd : n / 9223372036854775808 = -1 := by omega
    rw [hd, if_pos h]
    show IntKind.u64.wrap (IntKind.i64.wrap ((BitVec.ofInt 64 (n * 2) ^^^ BitVec.ofInt 64 (-1)).toNat : Int)) = _
    have e1 : BitVec.ofInt 64 (-1) = BitVec.allOnes 64 := by decide
    rw [e1, BitVec.xor_allOnes, BitVec.toNat_not, BitVec.toNat_ofInt]
    have e2 : (((n * 2) % ((2 ^ 64 : Nat) : Int)).toNat : Int) = n * 2 + 18446744073709551616 := by omega
    simp only [IntKind.wrap_i64, IntKind.wrap_u64]
    omega
  · have hd : n / 9223372036854775808 = 0 := by omega
    rw [hd, if_neg h]
    show IntKind.u64.wrap (IntKind.i64.wrap ((BitVec.ofInt 64 (n * 2) ^^^ BitVec.ofInt 64 0).toNat : Int)) = _
    have e1 : BitVec.ofInt 64 0 = 0#64 := by decide
    rw [e1, BitVec.xor_zero, BitVec.toNat_ofInt]
    have e2 : (((n * 2) % ((2 ^ 64 : Nat) : Int)).toNat : Int) = n * 2 := by omega
    simp only [IntKind.wrap_i64, IntKind.wrap_u64]
    omega

theorem and127 (c : Nat) (hc : c < 256) : bits .and .u8 (c : Int) 127 = ((c % 128 : Nat) : Int) := by
  have h : ∀ k : Fin 256, bits .and .u8 (k.val : Int) 127 = ((k.val % 128 : Nat) : Int) := by decide +kernel
  exact h ⟨c, hc⟩
theorem or_sev (n c k : Nat) (hk : k < 6) (hn : n < 128 ^ k) (hc : c < 256) :
    bits .or .u64 (n : Int) (IntKind.u64.wrap (IntKind.u64.wrap (bits .and .u8 (c : Int) 127) * 2 ^ (7 * k))) = ((n + (c % 128) * 128 ^ k : Nat) : Int) := by
  have hp : (2 : Nat) ^ (7 * k) = 128 ^ k := by rw [Nat.pow_mul]
  have hp6 : 128 ^ k ≤ 34359738368 := by
    have : 128 ^ k ≤ 128 ^ 5 := Nat.pow_le_pow_right (by decide) (by omega)
    simpa using this
  have hm : c % 128 * 128 ^ k ≤ 127 * 34359738368 := Nat.mul_le_mul (by omega) hp6
  have e1 : IntKind.u64.wrap (bits .and .u8 (c : Int) 127) = ((c % 128 : Nat) : Int) := by
    rw [and127 c hc, IntKind.wrap_u64]; omega
  have e2 : ((c % 128 : Nat) : Int) * 2 ^ (7 * k) = ((c % 128 * 128 ^ k : Nat) : Int) := by
    rw [← hp]; simp
  have e3 : IntKind.u64.wrap (((c % 128 * 128 ^ k : Nat) : Int)) = ((c % 128 * 128 ^ k : Nat) : Int) := by
    rw [IntKind.wrap_u64]; omega
  rw [e1, e2, e3, u64_or_nat n _ (by omega) (by omega), Nat.or_comm, nat_join (7 * k) _ _ (by rw [← hp]; simp) (by rw [hp]; exact hn), Nat.add_comm]
theorem and3 (n : Nat) (h : n < 18446744073709551616) : bits .and .u64 (n : Int) 3 = ((n % 4 : Nat) : Int) := by
  have := u64_and_nat n 3 h (by decide)
  rw [show ((3 : Nat) : Int) = 3 from rfl] at this
  rw [this, show (3 : Nat) = 2 ^ 2 - 1 from rfl, Nat.and_two_pow_sub_one_eq_mod]
theorem and1 (n : Nat) (h : n < 18446744073709551616) : bits .and .u64 (n : Int) 1 = ((n % 2 : Nat) : Int) := by
  have := u64_and_nat n 1 h (by decide)
  rw [show ((1 : Nat) : Int) = 1 from rfl] at this
  rw [this, show (1 : Nat) = 2 ^ 1 - 1 from rfl, Nat.and_two_pow_sub_one_eq_mod]
theorem xor_minus (a : Nat) (h : a < 4611686018427387904) : bits .xor .i64 (a : Int) (-1) = -(a : Int) - 1 := by
  show IntKind.i64.wrap ((BitVec.ofInt 64 (a : Int) ^^^ BitVec.ofInt 64 (-1)).toNat : Int) = _
  have e1 : BitVec.ofInt 64 (-1) = BitVec.allOnes 64 := by decide
  rw [e1, BitVec.xor_allOnes, BitVec.toNat_not, BitVec.toNat_ofInt]
  have e2 : (((a : Int) % ((2 ^ 64 : Nat) : Int)).toNat : Int) = a := by omega
  simp only [IntKind.wrap_i64]
  omega
theorem xor_zero (a : Nat) (h : a < 4611686018427387904) : bits .xor .i64 (a : Int) 0 = (a : Int) := by
  show IntKind.i64.wrap ((BitVec.ofInt 64 (a : Int) ^^^ BitVec.ofInt 64 0).toNat : Int) = _
  have e1 : BitVec.ofInt 64 0 = 0#64 := by decide
  rw [e1, BitVec.xor_zero, BitVec.toNat_ofInt]
  have e2 : (((a : Int) % ((2 ^ 64 : Nat) : Int)).toNat : Int) = a := by omega
  simp only [IntKind.wrap_i64]
  omega
theorem xor_zero' (n : Nat) (h : n < 4611686018427387904) : bits .xor .i64 ((n : Int) / 2) 0 = (n : Int) / 2 := by
  have := xor_zero (n / 2) (by omega)
  rwa [show ((n / 2 : Nat) : Int) = (n : Int) / 2 from by omega] at this
theorem xor_minus' (n : Nat) (h : n < 4611686018427387904) : bits .xor .i64 ((n : Int) / 2) (-1) = -((n : Int) / 2) - 1 := by
  have := xor_minus (n / 2) (by omega)
  rwa [show ((n / 2 : Nat) : Int) = (n : Int) / 2 from by omega] at this
end Go.Proofs.Ytfichobelmabeaa
