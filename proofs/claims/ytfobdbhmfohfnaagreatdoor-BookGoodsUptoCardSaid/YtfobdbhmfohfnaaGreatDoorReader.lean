/- The walks of the reader's methods: next, take, at, word. -/
import Derived.Test.YtfobdbhmfohfnaaGreatDoorProg
import Derived.Test.YtfobdbhmfohfnaaGreatDoorBase
import Derived.Deep.Light
import Derived.Deep.DeepCutAuto
set_option linter.all false
set_option maxRecDepth 100000
set_option maxHeartbeats 8000000
namespace Go.Proofs.YtfobdbhmfohfnaaGreatDoor
open Go.RowKit
def Rdr (S : Nat → Prop) (w : World) (g : Nat) (r : Rd) : Prop := ∃ v, Box w g 71 [v, .bool r.bad] ∧ RSl 1 16 RStr S w [v] r.l
def RdEnd (S : Nat → Prop) (w : World) (g : Nat) (v : Value) (r : Rd) (e : Ending) (w' : World) : Prop := e = .returned v ∧ Rdr S w' g r ∧ w.grownBy w' (some g)
theorem Rdr.lt {S : Nat → Prop} {w : World} {g : Nat} {r : Rd} (h : Rdr S w g r) : g < w.heap.size := by obtain ⟨_, h, _⟩ := h; exact h.lt
theorem Rdr.keep {S : Nat → Prop} {w w' : World} {g : Nat} {r : Rd} (h : Rdr S w g r) (hk : Keep (fun y => S y ∨ y = g) w w') : Rdr S w' g r := by
 obtain ⟨v, h1, h2⟩ := h
 exact ⟨v, h1.keep hk (.inr rfl), (RSl.fair RStr.fair).keep h2 (hk.mono fun _ hy => .inl hy)⟩
theorem Rdr.below {S : Nat → Prop} {w w' : World} {g : Nat} {r : Rd} (h : Rdr S w g r) (hb : Below w.heap.size w w') : Rdr S w' g r := h.keep (Keep.of_below hb)
theorem Rdr.set_ {S : Nat → Prop} {w : World} {g : Nat} {r : Rd} (h : Rdr S w g r) (hS : ¬ S g) (b : Bool) : Rdr S (w.setCell ⟨g, 1, none⟩ (.bool b)) g ⟨r.l, b⟩ := by
 obtain ⟨v, h1, h2⟩ := h
 exact ⟨v, by simpa using h1.set_ 1 (.bool b), (RSl.fair RStr.fair).keep h2 (Keep.setCell _ _ hS)⟩
theorem grown_one {w : World} {g i : Nat} (u : Value) : w.grownBy (w.setCell ⟨g, i, none⟩ u) (some g) := grown_setCell (grown_below (Below.refl _ _) _) (.inl rfl) u
theorem words_rest {S : Nat → Prop} {w : World} {g o n cap : Nat} {s : ByteArray} {l : List ByteArray} (h : RSl 1 16 RStr S w [.slice (some ⟨g, o, none⟩) n cap] (s :: l)) : RSl 1 16 RStr S w [.slice (some ⟨g, o + 1, none⟩) l.length (cap - 1)] l := by
 obtain ⟨A, c, hv, hc, hb, hx⟩ := h
 injection hv with hv _
 injection hv with h1 h2 h3
 subst h1 h2 h3
 refine ⟨_, _, rfl, by simp at hc; omega, by simp at hb; omega, fun k x hk => ?_⟩
 obtain ⟨g', o', cs, he, h4, h5, h6, h7, h8⟩ := hx (k + 1) x (by simpa using hk)
 refine ⟨g', o' + 1, cs, by injection he with he; injection he with e1 e2; subst e1 e2; rfl, h4, h5, h6, h7, fun j hj => ?_⟩
 have := h8 j hj
 rw [show o' + 1 + k * 1 + j = o' + (k + 1) * 1 + j by omega]; exact this
theorem next_any (S : Nat → Prop) (g : Nat) (r : Rd) (w : World) (h : Rdr S w g r) (hS : ¬ S g) : Calls Tryz.prog 36 #[.pointer (some ⟨g, 0, none⟩)] w (RdEnd S w g (.string r.next.1) r.next.2) := by
 obtain ⟨l, bad⟩ := r
 obtain ⟨v, h1, h2⟩ := h
 obtain ⟨A, cap, rfl, hc, hb⟩ := h2.form
 have c0 : w.cell? ⟨g, 0, none⟩ = some (.slice A l.length cap) := h1.cell 0
 have c1 : w.cell? ⟨g, 1, none⟩ = some (.bool bad) := h1.cell 1
 have f0 := h1.frozen 0
 have f1 := h1.frozen 1
 have hl := h1.lt
 cases l with
 | nil =>
  have HR := Lib.hid (show Rdr S (w.setCell ⟨g, 1, none⟩ (.bool true)) g ⟨[], true⟩ from Rdr.set_ (r := ⟨[], bad⟩) ⟨_, h1, h2⟩ hS true)
  clear h1 h2 hS
  go_enter Tryz.func36, Tryz.ntmps36
  go_wp2_with fail
  go_ret
  exact ⟨rfl, HR.out, grown_one _⟩
 | cons s l =>
  obtain ⟨gw, o, rfl, hSw, hlw⟩ := h2.base (by simp)
  obtain ⟨es, -, hre, hli⟩ := h2.lies (k := 0) (by simp)
  have he : es = [.string s] := hre
  subst he
  have d0 : w.cell? ⟨gw, o, none⟩ = some (.string s) := by have := hli.at_ 0 rfl; simpa using this
  have hne : gw ≠ g := fun e => hS (e ▸ hSw)
  have hrest := (RSl.fair RStr.fair).keep (words_rest h2) (Keep.setCell w (a := ⟨g, 0, none⟩) (.slice (some ⟨gw, o + 1, none⟩) l.length (cap - 1)) hS)
  simp only [List.length_cons] at c0 hc
  have hcl : (0 : Int) < (l.length : Int) + 1 := by omega
  by_cases h1c : cap = 1
  ·obtain rfl : l = [] := List.eq_nil_of_length_eq_zero (by omega)
   subst h1c
   have HR : Hid (Rdr S (w.setCell ⟨g, 0, none⟩ (.slice (some ⟨gw, o, none⟩) 0 0)) g ⟨[], bad⟩) :=
    ⟨_, by simpa using h1.set_ 0 (.slice (some ⟨gw, o, none⟩) 0 0), ⟨_, _, rfl, by simp, by simp, fun k x hk => by simp at hk⟩⟩
   simp only [List.length_nil] at c0
   clear h1 h2 hS hre hli hrest
   go_enter Tryz.func36, Tryz.ntmps36
   go_wp2_with fail
   go_ret
   exact ⟨rfl, HR.out, grown_one _⟩
  ·have HR : Hid (Rdr S (w.setCell ⟨g, 0, none⟩ (.slice (some ⟨gw, o + 1, none⟩) l.length (cap - 1))) g ⟨l, bad⟩) :=
    ⟨_, by simpa using h1.set_ 0 (.slice (some ⟨gw, o + 1, none⟩) l.length (cap - 1)), hrest⟩
   obtain ⟨c2, hc2⟩ : ∃ c, cap = c + 2 := ⟨cap - 2, by omega⟩
   subst hc2
   clear h1 h2 hS hre hli hrest h1c
   go_enter Tryz.func36, Tryz.ntmps36
   go_wp2_with fail
   go_ret
   exact ⟨rfl, HR.out, grown_one _⟩
theorem take_any (S : Nat → Prop) (g : Nat) (r : Rd) (s : ByteArray) (w : World) (h : Rdr S w g r) (hS : ¬ S g) : Calls Tryz.prog 59 #[.pointer (some ⟨g, 0, none⟩), .string s] w (RdEnd S w g (.tuple #[]) (r.take s)) := by
 have hn := Lib.hid (next_any S g r w h hS)
 obtain ⟨x, hx⟩ : ∃ x, x = r.next.1 := ⟨_, rfl⟩
 obtain ⟨r2, hr2⟩ : ∃ x, x = r.next.2 := ⟨_, rfl⟩
 have Ht : Hid (r.take s = if x = s then r2 else ⟨r2.l, true⟩) := by show _ = _; rw [hx, hr2]; rfl
 rw [← hx, ← hr2] at hn
 have HS := Lib.hid hS
 clear h hx hr2 hS
 go_enter Tryz.func59, Tryz.ntmps59
 go_wp2_with fail
 refine hn.out.mono ?_
 rintro e w1 ⟨rfl, h1, hg⟩
 by_cases he : x = s
 ·have HR := Lib.hid (show Rdr S w1 g (r.take s) by rw [Ht.out, if_pos he]; exact h1)
  have eb : (!(x.toList == s.toList)) = false := by rw [ba_eq]; simp [he]
  clear he
  go_wp2_with fail
  refine bodyPost_end (results_none rfl _ _ _) rfl ?_
  exact ⟨rfl, HR.out, hg⟩
 ·have HR := Lib.hid (show Rdr S (w1.setCell ⟨g, 1, none⟩ (.bool true)) g (r.take s) by rw [Ht.out, if_neg he]; exact h1.set_ HS.out true)
  have eb : (!(x.toList == s.toList)) = true := by rw [ba_eq]; simp [he]
  obtain ⟨v, hb, _⟩ := h1
  have c1 : w1.cell? ⟨g, 1, none⟩ = some (.bool r2.bad) := hb.cell 1
  have f1 := hb.frozen 1
  have hl := hb.lt
  clear he hb
  go_wp2_with fail
  refine bodyPost_end (results_none rfl _ _ _) rfl ?_
  exact ⟨rfl, HR.out, grown_via hg (grown_one _) (.inl rfl)⟩
theorem at_any (S : Nat → Prop) (g : Nat) (r : Rd) (s : ByteArray) (w : World) (h : Rdr S w g r) : Calls Tryz.prog 60 #[.pointer (some ⟨g, 0, none⟩), .string s] w (Ret w (.bool (r.at_ s))) := by
 obtain ⟨l, bad⟩ := r
 obtain ⟨v, h1, h2⟩ := h
 obtain ⟨A, cap, rfl, hc, hb⟩ := h2.form
 have c0 : w.cell? ⟨g, 0, none⟩ = some (.slice A l.length cap) := h1.cell 0
 have hl := h1.lt
 cases l with
 | nil =>
  clear h1 h2
  go_enter Tryz.func60, Tryz.ntmps60
  go_wp2_with fail
  go_ret
  exact ⟨rfl, Below.refl _ _⟩
 | cons x l =>
  obtain ⟨gw, o, rfl, hSw, hlw⟩ := h2.base (by simp)
  obtain ⟨es, -, hre, hli⟩ := h2.lies (k := 0) (by simp)
  have he : es = [.string x] := hre
  subst he
  have d0 : w.cell? ⟨gw, o, none⟩ = some (.string x) := by have := hli.at_ 0 rfl; simpa using this
  simp only [List.length_cons] at c0 hc
  have hcl : (0 : Int) < (l.length : Int) + 1 := by omega
  have Ha : Hid ((Rd.mk (x :: l) bad).at_ s = (x.toList == s.toList)) := by show decide (x = s) = _; rw [ba_eq]
  clear h1 h2 hre hli
  go_enter Tryz.func60, Tryz.ntmps60
  go_wp2_with fail
  go_ret
  exact ⟨by rw [Ha.out]; rfl, Below.refl _ _⟩
theorem isW_at {x : ByteArray} (h : 0 < x.size) : isW x = decide (97 ≤ x[0].toNat ∧ x[0].toNat ≤ 122) := by
 unfold isW
 have hl : (bytes x).length = x.size := rfl
 cases hb : bytes x with
 | nil => rw [hb] at hl; simp at hl; omega
 | cons c l =>
  have : x[0] = c := by
   have e : (bytes x)[0]'(by rw [hl]; exact h) = c := by simp only [hb]; rfl
   exact e
  rw [this]; rfl
theorem word_any (S : Nat → Prop) (g : Nat) (r : Rd) (w : World) (h : Rdr S w g r) (hS : ¬ S g) (hz : r.next.1.size ≤ 9223372036854775807) : Calls Tryz.prog 58 #[.pointer (some ⟨g, 0, none⟩)] w (RdEnd S w g (.string r.word.1) r.word.2) := by
 have hn := Lib.hid (next_any S g r w h hS)
 obtain ⟨x, hx⟩ : ∃ x, x = r.next.1 := ⟨_, rfl⟩
 obtain ⟨r2, hr2⟩ : ∃ x, x = r.next.2 := ⟨_, rfl⟩
 have Ht : Hid (r.word = (x, if isW x then r2 else ⟨r2.l, true⟩)) := by show _ = _; rw [hx, hr2]; rfl
 rw [← hx, ← hr2] at hn
 rw [← hx] at hz
 rw [Ht.out]
 obtain ⟨r3, hr3⟩ : ∃ r3, r3 = if isW x then r2 else ⟨r2.l, true⟩ := ⟨_, rfl⟩
 rw [← hr3]
 have H3 := Lib.hid hr3
 have HS := Lib.hid hS
 clear h hx hr2 hS Ht hr3
 go_enter Tryz.func58, Tryz.ntmps58
 go_wp2_with fail
 refine hn.out.mono ?_
 rintro e w1 ⟨rfl, h1, hg⟩
 have HR := Lib.hid h1
 have HRb := Lib.hid (h1.set_ HS.out true)
 obtain ⟨v, hb, _⟩ := h1
 have c1 : w1.cell? ⟨g, 1, none⟩ = some (.bool r2.bad) := hb.cell 1
 have f1 := hb.frozen 1
 have hl := hb.lt
 have hgg := grown_via hg (grown_one (g := g) (i := 1) (.bool true)) (.inl rfl)
 clear hb
 by_cases h0 : 0 < x.size
 ·have hne : (x.toList == ([] : List UInt8)) = false := by
   rw [ByteArray.toList_eq]
   cases hd : x.data.toList with
   | nil => exact absurd (show x.size = 0 from congrArg List.length hd) (by omega)
   | cons c l => rfl
  have hw := isW_at h0
  by_cases hc : 97 ≤ x[0].toNat ∧ x[0].toNat ≤ 122
  ·obtain ⟨hc1, hc2⟩ := hc
   have HW : Hid (isW x = true) := by show _ = _; rw [hw]; simp [hc1, hc2]
   clear hw
   go_wp2_with fail
   go_ret
   exact ⟨rfl, by rw [H3.out, HW.out, if_pos rfl]; exact HR.out, hg⟩
  ·have HW : Hid (isW x = false) := by show _ = _; rw [hw]; exact decide_eq_false hc
   clear hw
   by_cases hc1 : x[0].toNat < 97
   ·clear hc
    go_wp2_with fail
    go_ret
    exact ⟨rfl, by rw [H3.out, HW.out, if_neg (by simp)]; exact HRb.out, hgg⟩
   ·have hc2 : 122 < x[0].toNat := by omega
    have hc3 : 97 ≤ x[0].toNat := by omega
    clear hc hc1
    go_wp2_with fail
    go_ret
    exact ⟨rfl, by rw [H3.out, HW.out, if_neg (by simp)]; exact HRb.out, hgg⟩
 ·have hx0 : x = ⟨#[]⟩ := by
   have hl0 : (bytes x).length = 0 := by show x.size = 0; omega
   exact ba_of (List.eq_nil_of_length_eq_zero hl0)
  subst hx0
  go_wp2_with fail
  go_ret
  exact ⟨rfl, by rw [H3.out, show isW ⟨#[]⟩ = false from rfl, if_neg (by simp)]; exact HRb.out, hgg⟩
end Go.Proofs.YtfobdbhmfohfnaaGreatDoor
