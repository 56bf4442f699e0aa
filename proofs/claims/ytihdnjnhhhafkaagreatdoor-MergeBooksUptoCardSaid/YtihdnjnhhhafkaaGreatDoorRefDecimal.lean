/- The walk of patternbookref.decimal. -/
import Derived.Test.YtihdnjnhhhafkaaGreatDoorProg
import Derived.Test.YtihdnjnhhhafkaaGreatDoorBase
import Derived.Lib.ItoaNum
import Derived.Lib.ItoaMem
import Derived.Deep.Light
set_option linter.all false
set_option maxRecDepth 100000
set_option maxHeartbeats 8000000
namespace Go.Proofs.YtihdnjnhhhafkaaGreatDoor
open Go.RowKit
theorem ret_s {a b : ByteArray} (h : a = b) : Ending.returned (.string a) = .returned (.string b) := by rw [h]
def decS (u : Nat) : ByteArray := ⟨(Lib.decDigits u).toArray⟩
theorem decS_big {u : Nat} (h : ¬ u < 10) : decS u = decS (u / 10) ++ decS (u % 10) := by
 have e : Lib.decDigits u = Lib.decDigits (u / 10) ++ Lib.decDigits (u % 10) := by
  rw [Lib.decDigits, dif_neg h, Lib.decDigits_one (show u % 10 < 10 by omega)]
 unfold decS
 rw [e]
 refine ByteArray.ext ?_
 simp [ByteArray.data_append]
theorem dec_len_k : ∀ (k u : Nat), u < 10 ^ k → 1 ≤ k → (Lib.decDigits u).length ≤ k
 | 0, _, _, h => by omega
 | k + 1, u, h, _ => by
  by_cases hu : u < 10
  ·rw [Lib.decDigits_one hu]; simp
  ·rw [Lib.decDigits, dif_neg hu, List.length_append, List.length_singleton]
   have : u / 10 < 10 ^ k := by rw [Nat.pow_succ] at h; omega
   have hk : 1 ≤ k := by
    rcases Nat.eq_zero_or_pos k with rfl | hk
    ·simp at this; omega
    ·exact hk
   have := dec_len_k k (u / 10) this hk
   omega
theorem decS_len {u : Nat} (h : u ≤ 1099511627776) : (decS u).size ≤ 13 := by
 have := dec_len_k 13 u (by omega) (by omega)
 show (Lib.decDigits u).toArray.size ≤ 13
 simpa using this
def tenS : ByteArray := ⟨#[48, 49, 50, 51, 52, 53, 54, 55, 56, 57]⟩
theorem ten_piece : ∀ i : Fin 10, tenS.extract i.val (i.val + 1) = decS i.val := by
 intro i
 have : decS i.val = ⟨#[UInt8.ofNat (48 + i.val)]⟩ := by unfold decS; rw [Lib.decDigits_one i.isLt]
 rw [this]
 revert i
 decide +kernel
def DecP (w : World) (s : ByteArray) (e : Ending) (w' : World) : Prop := e = .returned (.string s) ∧ w' = w
def DecU (k : Nat) : Prop := ∀ (u : Nat) (w : World), u < 10 ^ k → 1 ≤ k → u ≤ 1099511627776 → Calls Tryz.prog 42 #[.int .i64 (u : Int)] w (DecP w (decS u))
theorem dec_succ (k : Nat) (IH0 : DecU k) : DecU (k + 1) := by
 intro u w hu _ hm
 have IH := Lib.hid IH0
 have hnn : ¬ ((u : Int) < 0) := by omega
 by_cases h : u < 10
 ·have h9 : ¬ ((9 : Int) < (u : Int)) := by omega
  have e1 : IntKind.i64.wrap ((u : Int) + 1) = (u : Int) + 1 := IntWalk.i64_in _ (by omega)
  have hp : Hid (tenS.extract u (u + 1) = decS u) := ten_piece ⟨u, h⟩
  have b0 : (0 : Int) ≤ (u : Int) := by omega
  have b1 : (u : Int) + 1 ≤ 10 := by omega
  clear hu hm h IH0
  go_enter Tryz.func42, Tryz.ntmps42
  go_wp2_with fail
  go_ret
  exact ⟨ret_s hp.out, rfl⟩
 ·have h9 : (9 : Int) < (u : Int) := by omega
  have hk : 1 ≤ k := by
   rcases Nat.eq_zero_or_pos k with rfl | hk
   ·simp at hu; omega
   ·exact hk
  have h1 : u / 10 < 10 ^ k := by rw [Nat.pow_succ] at hu; omega
  have h2 : u % 10 < 10 ^ k := by
   have : 10 ^ 1 ≤ 10 ^ k := Nat.pow_le_pow_right (by decide) hk
   omega
  have c1 := Lib.hid (fun W => IH.out (u / 10) W h1 hk (by omega))
  have c2 := Lib.hid (fun W => IH.out (u % 10) W h2 hk (by omega))
  have hb := Lib.hid (decS_big h)
  have l1 := decS_len (u := u / 10) (by omega)
  have l2 := decS_len (u := u % 10) (by omega)
  obtain ⟨q, hq⟩ : ∃ q, q = u / 10 := ⟨_, rfl⟩
  obtain ⟨m, hmm⟩ : ∃ m, m = u % 10 := ⟨_, rfl⟩
  have e1 : IntKind.i64.wrap (Int.tdiv (u : Int) 10) = (q : Int) := by
   rw [Int.tdiv_eq_ediv_of_nonneg (by omega)]
   exact (IntWalk.i64_in _ (by omega)).trans (by omega)
  have e2 : Int.tdiv (u : Int) 10 = (q : Int) := by
   rw [Int.tdiv_eq_ediv_of_nonneg (by omega)]; omega
  have e3 : IntKind.i64.wrap (Int.tmod (u : Int) 10) = (m : Int) := by
   rw [Int.tmod_eq_emod_of_nonneg (by omega)]
   exact (IntWalk.i64_in _ (by omega)).trans (by omega)
  have e4 : Int.tmod (u : Int) 10 = (m : Int) := by
   rw [Int.tmod_eq_emod_of_nonneg (by omega)]; omega
  have e5 : wrap64 (q : Int) = (q : Int) := IntWalk.wrap64_in _ (by omega)
  have e6 : wrap64 (m : Int) = (m : Int) := IntWalk.wrap64_in _ (by omega)
  rw [← hq] at c1 hb l1
  rw [← hmm] at c2 hb l2
  obtain ⟨s1, hs1⟩ : ∃ s, s = decS q := ⟨_, rfl⟩
  obtain ⟨s2, hs2⟩ : ∃ s, s = decS m := ⟨_, rfl⟩
  rw [← hs1] at c1 hb l1
  rw [← hs2] at c2 hb l2
  have g1 : ¬ 9223372036854775807 < s1.size + s2.size := by omega
  clear hu hm h hk h1 h2 IH0 IH hq hmm hs1 hs2 l1 l2
  go_enter Tryz.func42, Tryz.ntmps42
  go_wp2_with fail
  refine (c1.out _).mono ?_
  rintro e w1 ⟨rfl, rfl⟩
  go_wp2_with fail
  refine (c2.out _).mono ?_
  rintro e w2 ⟨rfl, rfl⟩
  go_wp2_with fail
  go_ret
  exact ⟨ret_s hb.out.symm, rfl⟩
theorem dec_all : ∀ k, DecU k
 | 0 => fun _ _ _ h => by omega
 | k + 1 => dec_succ k (dec_all k)
def itoaB (n : Int) : ByteArray := ⟨(Lib.itoa n).toArray⟩
theorem decimal_any (n : Int) (w : World) (h1 : -1099511627776 ≤ n) (h2 : n ≤ 1099511627776) : Calls Tryz.prog 42 #[.int .i64 n] w (DecP w (itoaB n)) := by
 by_cases h : n < 0
 ·obtain ⟨u, hu⟩ : ∃ u : Nat, n = -(u : Int) := ⟨n.natAbs, by omega⟩
  subst hu
  have e0 : itoaB (-(u : Int)) = ⟨#[45]⟩ ++ decS u := by
   unfold itoaB decS
   rw [Lib.itoa_neg u (by omega)]
   refine ByteArray.ext ?_
   simp [ByteArray.data_append]
  have c1 := Lib.hid (fun W => dec_all 13 u W (by omega) (by decide) (by omega))
  have l1 := decS_len (u := u) (by omega)
  have e1 : IntKind.i64.wrap (u : Int) = (u : Int) := IntWalk.i64_in _ (by omega)
  have He := Lib.hid e0
  obtain ⟨s1, hs1⟩ : ∃ s, s = decS u := ⟨_, rfl⟩
  rw [← hs1] at c1 He l1
  have g1 : ¬ 9223372036854775807 < 1 + s1.size := by omega
  have hlt : (-(u : Int) < 0) := h
  clear e0 hs1 h1 h2 h l1
  go_enter Tryz.func42, Tryz.ntmps42
  go_wp2_with fail
  refine (c1.out _).mono ?_
  rintro e w1 ⟨rfl, rfl⟩
  go_wp2_with fail
  go_ret
  exact ⟨ret_s He.out.symm, rfl⟩
 ·obtain ⟨u, rfl⟩ : ∃ u : Nat, n = (u : Int) := ⟨n.toNat, by omega⟩
  have := dec_all 13 u w (by omega) (by decide) (by omega)
  have e0 : itoaB (u : Int) = decS u := by unfold itoaB decS; rw [Lib.itoa_nonneg]
  rw [e0]; exact this
end Go.Proofs.YtihdnjnhhhafkaaGreatDoor
