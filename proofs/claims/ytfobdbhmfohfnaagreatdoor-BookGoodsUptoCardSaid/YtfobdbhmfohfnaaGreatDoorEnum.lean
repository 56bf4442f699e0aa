/- The walk of the reader's enum. -/
import Derived.Test.YtfobdbhmfohfnaaGreatDoorNumber
import Derived.Test.YtfobdbhmfohfnaaGreatDoorStableItem
import Derived.Test.YtfobdbhmfohfnaaGreatDoorBase
set_option linter.all false
set_option maxRecDepth 100000
set_option maxHeartbeats 8000000
namespace Go.Proofs.YtfobdbhmfohfnaaGreatDoor
open Go.RowKit
theorem sl_items2 : SlInfo Tryz.prog 38 60 2 24 := SlInfo.mk (z := .agg #[.string .empty, .int .i64 0]) Tryz.underlying38 (by decide) (by decide) (by kernel_rfl) rfl
def Small (r : Rd) : Prop := r.l.length ≤ 4000 ∧ ∀ x ∈ r.l, x.size ≤ 4000
theorem Small.next {r : Rd} (h : Small r) : Small r.next.2 ∧ r.next.1.size ≤ 4000 := by
 obtain ⟨l, b⟩ := r
 cases l with
 | nil => exact ⟨⟨Nat.zero_le _, fun x hx => by cases hx⟩, Nat.zero_le _⟩
 | cons x l => exact ⟨⟨by have := h.1; simp at this; show l.length ≤ 4000; omega, fun y hy => h.2 y (List.mem_cons_of_mem _ hy)⟩, h.2 x (List.mem_cons_self ..)⟩
theorem Small.told {r : Rd} (h : Small r) (b : Bool) : Small ⟨r.l, b⟩ := h
theorem Small.word {r : Rd} (h : Small r) : Small r.word.2 := by
 unfold Rd.word; dsimp only; split
 ·exact h.next.1
 ·exact h.next.1.told true
theorem Small.take {r : Rd} (h : Small r) (s : ByteArray) : Small (r.take s) := by
 unfold Rd.take; split
 ·exact h.next.1
 ·exact h.next.1.told true
theorem Small.number {r : Rd} (h : Small r) : Small r.number.2 := by
 unfold Rd.number; split
 ·exact h.next.1
 ·exact h.next.1.told true
def rdM (r : Rd) : Nat := if r.bad then 0 else r.l.length + 1
theorem rdM_bad (l : List ByteArray) : rdM ⟨l, true⟩ = 0 := rfl
theorem rdM_next (r : Rd) : rdM r.next.2 ≤ rdM r := by
 obtain ⟨l, b⟩ := r
 cases l with
 | nil => exact Nat.zero_le _
 | cons x l => cases b with
  | true => exact Nat.le_refl _
  | false => show l.length + 1 ≤ (x :: l).length + 1; simp
theorem rdM_less {r : Rd} (h : r.bad = false) : rdM r.next.2 < rdM r := by
 obtain ⟨l, b⟩ := r
 cases h
 cases l with
 | nil => exact Nat.zero_lt_succ _
 | cons x l => show l.length + 1 < (x :: l).length + 1; simp
theorem rdM_word (r : Rd) : rdM r.word.2 ≤ rdM r := by
 unfold Rd.word; dsimp only; split
 ·exact rdM_next r
 ·exact Nat.zero_le _
theorem rdM_take (r : Rd) (s : ByteArray) : rdM (r.take s) ≤ rdM r := by
 unfold Rd.take; split
 ·exact rdM_next r
 ·exact Nat.zero_le _
theorem rdM_number {r : Rd} (h : r.bad = false) : rdM r.number.2 < rdM r := by
 have := rdM_less h
 unfold Rd.number; split
 ·exact this
 ·show 0 < rdM r; omega
theorem number_in (r : Rd) : -1099511627776 ≤ r.number.1 ∧ r.number.1 ≤ 1099511627776 := by
 unfold Rd.number
 cases hn : numW r.next.1 with
 | none => exact (show (-1099511627776 : Int) ≤ 0 ∧ (0 : Int) ≤ 1099511627776 by decide)
 | some n =>
  unfold numW at hn
  split at hn
  ·split at hn
   ·next h => injection hn with hn; subst hn; exact h.2
   ·cases hn
  ·cases hn
theorem number_q (r : Rd) {x : ByteArray} (hx : x.size ≤ 4000) : QItem ⟨x, r.number.1⟩ := ⟨(number_in r).1, (number_in r).2, hx⟩
theorem items_step {r : Rd} {k : Nat} (acc : List ItemD) (h1 : r.bad = false) (h2 : r.at_ wShut = false) (h3 : rdM r ≤ k) : ∃ k', rdM (r.number.2.word.2.take wEnd) ≤ k' ∧ itemsF k r acc = itemsF k' (r.number.2.word.2.take wEnd) (acc ++ [⟨r.number.2.word.1, r.number.1⟩]) := by
 have a := rdM_number h1
 have b := rdM_word r.number.2
 have c := rdM_take r.number.2.word.2 wEnd
 cases k with
 | zero => omega
 | succ k => exact ⟨k, by omega, by rw [itemsF, if_pos ⟨h1, h2⟩]⟩
theorem items_stop {r : Rd} (k : Nat) (acc : List ItemD) (h : ¬ (r.bad = false ∧ r.at_ wShut = false)) : itemsF k r acc = (acc, r) := by
 cases k with
 | zero => rfl
 | succ k => rw [itemsF, if_neg h]
def rdMw (w : World) (g : Nat) : Nat := match w.cell? ⟨g, 0, none⟩, w.cell? ⟨g, 1, none⟩ with
 | some (.slice _ n _), some (.bool b) => if b then 0 else n + 1
 | _, _ => 0
theorem Rdr.m {S : Nat → Prop} {w : World} {g : Nat} {r : Rd} (h : Rdr S w g r) : rdMw w g = rdM r := by
 obtain ⟨v, h1, h2⟩ := h
 obtain ⟨A, cap, rfl, hc, hb⟩ := h2.form
 have c0 : w.cell? ⟨g, 0, none⟩ = some (.slice A r.l.length cap) := h1.cell 0
 have c1 : w.cell? ⟨g, 1, none⟩ = some (.bool r.bad) := h1.cell 1
 unfold rdMw
 rw [c0, c1]; rfl
def TypeEnd (S : Nat → Prop) (w : World) (g : Nat) (p : TypeD × Rd) (e : Ending) (w' : World) : Prop :=
 ∃ vf vg vi t, e = .returned (.agg #[.string t.name, .bool t.enum, vf, vg, vi]) ∧ Own w.heap.size 44 5 RField NoT w' vf t.fields ∧ RSl 1 8 RInt (fun y => w.heap.size ≤ y ∧ vf.ownBlock ≠ some y) w' [vg] t.gone ∧ RSl 2 24 RItem (fun y => w.heap.size ≤ y ∧ vf.ownBlock ≠ some y) w' [vi] t.items ∧ LikeT t p.1 ∧ Rdr S w' g p.2 ∧ w.grownBy w' (some g)
theorem Rdr.grown {S : Nat → Prop} {w w' : World} {g : Nat} {r : Rd} (h : Rdr S w g r) {row : Option Nat} (hg : w.grownBy w' row) (hr : ∀ k, row = some k → ¬ S k ∧ k ≠ g) : Rdr S w' g r :=
 h.keep (Keep.of_grown hg (fun k e hk => hk.elim (hr k e).1 (hr k e).2))
theorem grown_setCells {a : World} {row : Option Nat} {g : Nat} (hg : a.heap.size ≤ g) : ∀ (vs : List Value) (i : Nat) (w : World), a.grownBy w row → a.grownBy (Go.Proofs.YtfobdbhmfohfnaaGreatDoor.setCells w g i vs) row
 | [], _, _, h => h
 | v :: vs, i, w, h => grown_setCells hg vs (i + 1) _ (grown_setCell h (.inr hg) v)
theorem enum_results {W : World} {a : Act} {g : Nat} {c0 c1 c2 c3 c4 : Value} (hb : Box W g 40 [c0, c1, c2, c3, c4]) (h4 : a.tmps.getD 2 undef = .pointer (some ⟨g, 0, none⟩)) :
  (results Tryz.f38 a.tmps).run Tryz.prog W = .ok (.agg #[c0, c1, c2, c3, c4]) W := by
 obtain ⟨e0, e1, e2, e3, e4⟩ := hb.five
 simp only [Array.getD_eq_getD_getElem?] at h4
 simp [results, Tryz.results38, go_sem, h4, e0, e1, e2, e3, e4]
theorem renum_any (S : Nat → Prop) (g : Nat) (r : Rd) (B w : World) (h : Rdr S w g r) (hS : ¬ S g) (hSw : ∀ k, S k → k < w.heap.size) (hz : Small r) (hN : Nums B) (hB : Below B.heap.size B w) (hg : B.heap.size ≤ g) : Calls Tryz.prog 38 #[.pointer (some ⟨g, 0, none⟩)] w (TypeEnd S w g (enumRF r)) := by
 have hgw := h.lt
 obtain ⟨r1, hr1⟩ : ∃ x, x = r.word.2 := ⟨_, rfl⟩
 obtain ⟨nm, hnm⟩ : ∃ x, x = r.word.1 := ⟨_, rfl⟩
 have Hnz : Hid (nm.size ≤ 4000) := by show nm.size ≤ 4000; rw [hnm]; exact hz.next.2
 obtain ⟨r2, hr2⟩ : ∃ x, x = r1.take wOpen := ⟨_, rfl⟩
 obtain ⟨er, her⟩ : ∃ x, x = enumRF r := ⟨_, rfl⟩
 have Her : Hid (er = (⟨nm, true, [], [], sortS ltItem (itemsF (r2.l.length + 2) r2 []).1⟩, (itemsF (r2.l.length + 2) r2 []).2.take wShut)) := by show _ = _; rw [her, hr2, hr1, hnm]; rfl
 rw [← her]
 have Hs2 : Hid (Small r2) := by show Small r2; rw [hr2, hr1]; exact hz.word.take _
 have hword := Lib.hid (fun W (hW : Rdr S W g r) => word_any S g r W hW hS (by have := hz.next.2; omega))
 have htake := Lib.hid (fun (q : Rd) (s : ByteArray) W (hW : Rdr S W g q) => take_any S g q s W hW hS)
 have hnum := Lib.hid (fun (q : Rd) W (hW : Rdr S W g q) (hs : Small q) (hg' : w.grownBy W (some g)) => rnumber_any S g q B W hW hS hs.next.2 hN (below_grown hB hg' hB.size (fun g' e => by injection e with e; omega)) hg)
 have hwrd := Lib.hid (fun (q : Rd) W (hW : Rdr S W g q) (hs : Small q) => word_any S g q W hW hS (by have := hs.next.2; omega))
 have HS := Lib.hid hS
 have HSw := Lib.hid hSw
 rw [← hr1, ← hnm] at hword
 have Hr2 := Lib.hid hr2
 have hR0 := h.keep (Keep.alloc _ w (.cells [.string ⟨#[]⟩, .bool false, .slice none 0 0, .slice none 0 0, .slice none 0 0].toArray 40))
 have hZ0 := Box.new w 40 [.string ⟨#[]⟩, .bool false, .slice none 0 0, .slice none 0 0, .slice none 0 0]
 have hG0 := grown_alloc (row := some g) (grown_below (Below.refl w.heap.size w) (some g)) (.cells [.string ⟨#[]⟩, .bool false, .slice none 0 0, .slice none 0 0, .slice none 0 0].toArray 40)
 clear h hS hSw hz hN hB hg hr1 hnm her hr2
 go_enter Tryz.func38, Tryz.ntmps38
 go_wp2_with fail
 generalize (World.alloc w (.cells _ _)) = w0 at hR0 hZ0 hG0 ⊢
 refine (hword.out _ hR0).mono ?_
 rintro e w1 ⟨rfl, h1, hg1⟩
 go_wp2_with fail
 have hR1 := h1.keep (Keep.alloc _ w1 (.cells [.string nm, .bool true, .slice none 0 0, .slice none 0 0, Value.slice none 0 0].toArray 40))
 have hX1 := Box.new w1 40 [.string nm, .bool true, .slice none 0 0, .slice none 0 0, Value.slice none 0 0]
 have hZ1 := (hZ0.grown hg1 (by intro e; injection e with e; omega)).alloc (.cells [.string nm, .bool true, .slice none 0 0, .slice none 0 0, Value.slice none 0 0].toArray 40)
 have hG1 := grown_alloc (grown_via hG0 hg1 (.inl rfl)) (.cells [.string nm, .bool true, .slice none 0 0, .slice none 0 0, Value.slice none 0 0].toArray 40)
 have hzx : w.heap.size < w1.heap.size := by have := hZ0.lt; have := hg1.size; omega
 generalize w1.heap.size = X at hX1 hzx ⊢
 generalize (World.alloc w1 (.cells _ _)) = w2 at hR1 hX1 hZ1 hG1 ⊢
 refine (htake.out _ _ _ hR1).mono ?_
 rintro e w3 ⟨rfl, h3, hg3⟩
 replace h3 : Rdr S w3 g r2 := by rw [Hr2.out]; exact h3
 have hX3 := hX1.grown hg3 (by intro e; injection e with e; omega)
 have hZ3 := hZ1.grown hg3 (by intro e; injection e with e; omega)
 have hG3 := grown_via hG1 hg3 (.inl rfl)
 clear hR1 hX1 hZ1 hG1 hg3 hR0 hZ0 hG0 hg1 h1
 go_wp2_with fail
 go_loopw [] (fun wr => ∃ (q : Rd) (acc : List ItemD) (v : Value) (k : Nat), Rdr S wr g q ∧ Box wr X 40 [.string nm, .bool true, .slice none 0 0, .slice none 0 0, v] ∧ Box wr w.heap.size 40 [.string ⟨#[]⟩, .bool false, .slice none 0 0, .slice none 0 0, .slice none 0 0] ∧ Own w.heap.size 60 2 RItem NoT wr v acc ∧ w.grownBy wr (some g) ∧ Hid (Small q ∧ rdM q ≤ k ∧ acc.length + rdM q ≤ 4001 ∧ (∀ x ∈ acc, QItem x) ∧ itemsF (r2.l.length + 2) r2 [] = itemsF k q acc)) (fun wr => rdMw wr g)
 case atStart => exact ⟨r2, [], _, r2.l.length + 2, h3, hX3, hZ3, Own.nil_ _ _ _ _ _ _, hG3, (show _ ∧ _ from ⟨Hs2.out, by unfold rdM; split <;> omega, by have := Hs2.out.1; unfold rdM; simp; split <;> omega, (fun x hx => by cases hx), rfl⟩)⟩
 case round =>
  clear h3 hX3 hZ3 hG3
  obtain ⟨q, acc, v, k, hR, hX, hZ, hO, hG, HI⟩ := hrel
  have hat := Lib.hid (at_any S g q wShut wr hR)
  have hM := Lib.hid hR.m
  obtain ⟨uv, hbx, -⟩ := Lib.hid hR |>.out
  have c1 : wr.cell? ⟨g, 1, none⟩ = some (.bool q.bad) := hbx.cell 1
  have hl := hbx.lt
  clear hbx
  by_cases hbad : q.bad = true
  ·--[BAD
   have Hst : Hid (itemsF k q acc = (acc, q)) := by show _ = _; exact items_stop k acc (by rw [hbad]; simp)
   rw [hbad] at c1
   clear hbad
   go_wp2_with fail
   refine (htake.out q wShut wr hR).mono ?_
   rintro e w4 ⟨rfl, h4, hg4⟩
   have hne4 : v.ownBlock ≠ some g := fun e => by have := (hO.lt e).1; omega
   have hX4 := hX.grown hg4 (by intro e; injection e with e; omega)
   have hZ4 := hZ.grown hg4 (by intro e; injection e with e; omega)
   have hO4 := hO.kept RItem.fair hg4 (.inr hne4) (fun _ _ h => h)
   have hG4 := grown_via hG hg4 (.inl rfl)
   have c44 := hX4.cell 4
   have lX4 := hX4.lt
   clear hR hX hZ hO hG hne4
   go_wp2_with fail
   refine (sortStableItem_any _ _ v acc w4 hO4 (by have := HI.out.2.2.1; omega) HI.out.2.2.2.1).mono ?_
   rintro e w5 ⟨rfl, ys, hyl, hyq, hO5, hg5, hys⟩
   have hX5 := hX4.grown hg5 (hX4.ne_own hO4 (by decide))
   have hZ5 := hZ4.grown hg5 (hZ4.ne_own hO4 (by decide))
   have hG5 := grown_via hG4 hg5 (.inr (fun k e => (hO4.lt e).1))
   have h5 := h4.grown hg5 (fun k e => by have := (hO4.lt e).1; exact ⟨fun hk => by have := HSw.out k hk; omega, by omega⟩)
   have hnZ : ¬ (S w.heap.size ∨ w.heap.size = g) := fun h => h.elim (fun h => by have := HSw.out _ h; omega) (fun h => by omega)
   have HR := Lib.hid (h5.keep (Keep.setCells hnZ [.string nm, .bool true, .slice none 0 0, .slice none 0 0, v] 0 w5))
   have HG := Lib.hid (grown_setCells (Nat.le_refl w.heap.size) [.string nm, .bool true, .slice none 0 0, .slice none 0 0, v] 0 w5 hG5)
   have HZ := Lib.hid (hZ5.setCells [.string nm, .bool true, .slice none 0 0, .slice none 0 0, v] rfl)
   have HI5 := Lib.hid ((RSl.fair RItem.fair).mono ((RSl.fair RItem.fair).keep (hO5.read (S := fun y => w.heap.size ≤ y ∧ y ≠ w.heap.size) (by_ := 24) RItem.fair (fun _ h _ => h.elim) (fun k e => ⟨(hO5.lt e).1, fun h => hZ5.ne_own hO5 (by decide) (by rw [e, h])⟩) (by have := HI.out.2.2.1; omega)) (Keep.setCells (fun h => h.2 rfl) [.string nm, .bool true, .slice none 0 0, .slice none 0 0, v] 0 w5)) (T := fun y => w.heap.size ≤ y ∧ (Value.slice none 0 0).ownBlock ≠ some y) (fun y h _ => ⟨h.1, by simp [Value.ownBlock]⟩))
   have Hys := Lib.hid hys
   have Hyl := Lib.hid hyl
   obtain ⟨Av, cv, hv, -⟩ := hO5.form
   subst hv
   obtain ⟨c0, c1, c2, c3, c4⟩ := hX5.five
   obtain ⟨d0, d1, d2, d3, d4⟩ := hZ5.five
   have f0 := hZ5.frozen 0
   have f1 := hZ5.frozen 1
   have f2 := hZ5.frozen 2
   have f3 := hZ5.frozen 3
   have f4 := hZ5.frozen 4
   have lX := hX5.lt
   have lZ := hZ5.lt
   have Hyq := Lib.hid hyq
   clear hX4 hX5 hZ4 hZ5 hG4 hG5 hO4 hO5 h4 h5 hnZ hg4 hg5 hyq hys hyl c44 lX4
   go_wp2_with fail
   change bodyPost _ _ _ _ _ (Go.Proofs.YtfobdbhmfohfnaaGreatDoor.setCells w5 w.heap.size 0 [.string nm, .bool true, .slice none 0 0, .slice none 0 0, Value.slice Av ys.length cv])
   refine bodyPost_ret (enum_results HZ.out rfl) rfl ?_
   have Hr5 := HI.out.2.2.2.2
   rw [Hst.out] at Hr5
   refine ⟨_, _, _, ⟨nm, true, [], [], ys⟩, rfl, Own.nil_ _ _ _ _ _ _, RSl.nil_, HI5.out, ?_, ?_, HG.out⟩
   ·rw [Her.out, Hr5]
    exact ⟨rfl, rfl, rfl, fun _ => rfl, rfl, by show ys.length = (sortS ltItem acc).length; rw [Hyl.out, sortS_len], fun h => Hys.out (by have h' : (sortS ltItem acc).length < 20 := h; rwa [sortS_len] at h'), ⟨Hnz.out, Nat.zero_le _, fun x hx => (by cases hx), fun x hx => (Hyq.out x hx).2.2⟩⟩
   ·rw [Her.out, Hr5]; exact HR.out
  ·have hbad : q.bad = false := by simpa using hbad
   have Hbad := Lib.hid hbad
   rw [hbad] at c1
   clear hbad
   go_upto_region 5 with fail
   refine hat.out.mono ?_
   rintro e w3 ⟨rfl, hb3⟩
   have hR3 := hR.below hb3
   have hX3 := hX.below hb3 hX.lt
   have hZ3 := hZ.below hb3 hZ.lt
   have hO3 := hO.below RItem.fair hb3
   have hG3 := grown_via hG (grown_below hb3 (some g)) (.inl rfl)
   clear hR hX hZ hO hG hb3 c1 hl hat
   cases hq : q.at_ wShut with
   | true =>
    have Hst : Hid (itemsF k q acc = (acc, q)) := by show _ = _; exact items_stop k acc (by rw [hq]; simp)
    clear hq
    go_wp2_with fail
    refine (htake.out q wShut w3 hR3).mono ?_
    rintro e w4 ⟨rfl, h4, hg4⟩
    have hne4 : v.ownBlock ≠ some g := fun e => by have := (hO3.lt e).1; omega
    have hX4 := hX3.grown hg4 (by intro e; injection e with e; omega)
    have hZ4 := hZ3.grown hg4 (by intro e; injection e with e; omega)
    have hO4 := hO3.kept RItem.fair hg4 (.inr hne4) (fun _ _ h => h)
    have hG4 := grown_via hG3 hg4 (.inl rfl)
    have c44 := hX4.cell 4
    have lX4 := hX4.lt
    clear hR3 hX3 hZ3 hO3 hG3 hne4
    go_wp2_with fail
    refine (sortStableItem_any _ _ v acc w4 hO4 (by have := HI.out.2.2.1; omega) HI.out.2.2.2.1).mono ?_
    rintro e w5 ⟨rfl, ys, hyl, hyq, hO5, hg5, hys⟩
    have hX5 := hX4.grown hg5 (hX4.ne_own hO4 (by decide))
    have hZ5 := hZ4.grown hg5 (hZ4.ne_own hO4 (by decide))
    have hG5 := grown_via hG4 hg5 (.inr (fun k e => (hO4.lt e).1))
    have h5 := h4.grown hg5 (fun k e => by have := (hO4.lt e).1; exact ⟨fun hk => by have := HSw.out k hk; omega, by omega⟩)
    have hnZ : ¬ (S w.heap.size ∨ w.heap.size = g) := fun h => h.elim (fun h => by have := HSw.out _ h; omega) (fun h => by omega)
    have HR := Lib.hid (h5.keep (Keep.setCells hnZ [.string nm, .bool true, .slice none 0 0, .slice none 0 0, v] 0 w5))
    have HG := Lib.hid (grown_setCells (Nat.le_refl w.heap.size) [.string nm, .bool true, .slice none 0 0, .slice none 0 0, v] 0 w5 hG5)
    have HZ := Lib.hid (hZ5.setCells [.string nm, .bool true, .slice none 0 0, .slice none 0 0, v] rfl)
    have HI5 := Lib.hid ((RSl.fair RItem.fair).mono ((RSl.fair RItem.fair).keep (hO5.read (S := fun y => w.heap.size ≤ y ∧ y ≠ w.heap.size) (by_ := 24) RItem.fair (fun _ h _ => h.elim) (fun k e => ⟨(hO5.lt e).1, fun h => hZ5.ne_own hO5 (by decide) (by rw [e, h])⟩) (by have := HI.out.2.2.1; omega)) (Keep.setCells (fun h => h.2 rfl) [.string nm, .bool true, .slice none 0 0, .slice none 0 0, v] 0 w5)) (T := fun y => w.heap.size ≤ y ∧ (Value.slice none 0 0).ownBlock ≠ some y) (fun y h _ => ⟨h.1, by simp [Value.ownBlock]⟩))
    have Hys := Lib.hid hys
    have Hyl := Lib.hid hyl
    obtain ⟨Av, cv, hv, -⟩ := hO5.form
    subst hv
    obtain ⟨c0, c1, c2, c3, c4⟩ := hX5.five
    obtain ⟨d0, d1, d2, d3, d4⟩ := hZ5.five
    have f0 := hZ5.frozen 0
    have f1 := hZ5.frozen 1
    have f2 := hZ5.frozen 2
    have f3 := hZ5.frozen 3
    have f4 := hZ5.frozen 4
    have lX := hX5.lt
    have lZ := hZ5.lt
    have Hyq := Lib.hid hyq
    clear hX4 hX5 hZ4 hZ5 hG4 hG5 hO4 hO5 h4 h5 hnZ hg4 hg5 hyq hys hyl c44 lX4
    go_wp2_with fail
    change bodyPost _ _ _ _ _ (Go.Proofs.YtfobdbhmfohfnaaGreatDoor.setCells w5 w.heap.size 0 [.string nm, .bool true, .slice none 0 0, .slice none 0 0, Value.slice Av ys.length cv])
    refine bodyPost_ret (enum_results HZ.out rfl) rfl ?_
    have Hr5 := HI.out.2.2.2.2
    rw [Hst.out] at Hr5
    refine ⟨_, _, _, ⟨nm, true, [], [], ys⟩, rfl, Own.nil_ _ _ _ _ _ _, RSl.nil_, HI5.out, ?_, ?_, HG.out⟩
    ·rw [Her.out, Hr5]
     exact ⟨rfl, rfl, rfl, fun _ => rfl, rfl, by show ys.length = (sortS ltItem acc).length; rw [Hyl.out, sortS_len], fun h => Hys.out (by have h' : (sortS ltItem acc).length < 20 := h; rwa [sortS_len] at h'), ⟨Hnz.out, Nat.zero_le _, fun x hx => (by cases hx), fun x hx => (Hyq.out x hx).2.2⟩⟩
    ·rw [Her.out, Hr5]; exact HR.out
   | false =>
    have Hq := Lib.hid hq
    clear hq
    go_upto_region 5 with fail
    have hRd := hR3.keep (Keep.drew _ _)
    have hXd := hX3.drew
    have hZd := hZ3.drew
    have hOd := hO3.drew RItem.fair
    have hGd := grown_drew hG3
    have hS : (fun W' => World.cell? W' ⟨X, 4, none⟩ = some v) w3.drew := hX3.drew.cell 4
    refine lateP_start (fun W' => World.cell? W' ⟨X, 4, none⟩ = some v) (fun i => i != 10) (by kernel_rfl) ?_
    clear hR3 hX3 hZ3 hO3 hG3
    generalize w3.drew = Wd at hRd hXd hZd hOd hGd hS ⊢
    refine ppP 0 ?_
    try simp only [pu]
    refine tkP 1 hS ?_
    try simp only [pu]
    refine ppP 2 ?_
    try simp only [pu]
    refine ppP 4 ?_
    try simp only [pu]
    refine lateP_one (i := 3) rfl (by kernel_rfl) (fun K hK => ?_)
    go_simp
    refine (hnum.out q Wd hRd HI.out.1 hGd).mono ?_
    rintro e w5 ⟨rfl, h5, hg5⟩
    have hne5 : v.ownBlock ≠ some g := fun e => by have := (hOd.lt e).1; omega
    have hX5 := hXd.grown hg5 (by intro e; injection e with e; omega)
    have hZ5 := hZd.grown hg5 (by intro e; injection e with e; omega)
    have hO5 := hOd.kept RItem.fair hg5 (.inr hne5) (fun _ _ h => h)
    have hG5 := grown_via hGd hg5 (.inl rfl)
    replace hS : (fun W' => World.cell? W' ⟨X, 4, none⟩ = some v) w5 := hX5.cell 4
    clear hXd hZd hOd hGd hg5 hRd
    refine hK.out _ _ (fun _ _ => hS) ?_
    clear hK K
    try simp only [pu]
    refine lateP_one (i := 5) rfl (by kernel_rfl) (fun K hK => ?_)
    go_simp
    refine (hwrd.out q.number.2 w5 h5 HI.out.1.number).mono ?_
    rintro e w6 ⟨rfl, h6, hg6⟩
    have hX6 := hX5.grown hg6 (by intro e; injection e with e; omega)
    have hZ6 := hZ5.grown hg6 (by intro e; injection e with e; omega)
    have hO6 := hO5.kept RItem.fair hg6 (.inr hne5) (fun _ _ h => h)
    have hG6 := grown_via hG5 hg6 (.inl rfl)
    replace hS : (fun W' => World.cell? W' ⟨X, 4, none⟩ = some v) w6 := hX6.cell 4
    clear hX5 hZ5 hO5 hG5 hg6 h5
    refine hK.out _ _ (fun _ _ => hS) ?_
    clear hK K
    try simp only [pu]
    refine ppP 6 ?_
    try simp only [pu]
    refine lateP_one (i := 7) rfl (by kernel_rfl) (fun K hK => ?_)
    go_simp
    have h7 := h6.keep (Keep.alloc _ w6 (.cells #[.string q.number.2.word.1, .int .i64 q.number.1] 60))
    have hB7 := Box.new w6 60 [.string q.number.2.word.1, .int .i64 q.number.1]
    have hX7 := hX6.alloc (.cells #[.string q.number.2.word.1, .int .i64 q.number.1] 60)
    have hZ7 := hZ6.alloc (.cells #[.string q.number.2.word.1, .int .i64 q.number.1] 60)
    have hO7 := hO6.alloc RItem.fair (.cells #[.string q.number.2.word.1, .int .i64 q.number.1] 60)
    have hG7 := grown_alloc hG6 (.cells #[.string q.number.2.word.1, .int .i64 q.number.1] 60)
    replace hS : (fun W' => World.cell? W' ⟨X, 4, none⟩ = some v) (w6.alloc (.cells #[.string q.number.2.word.1, .int .i64 q.number.1] 60)) := hX7.cell 4
    clear hX6 hZ6 hO6 hG6 h6
    refine hK.out _ _ (fun _ _ => hS) ?_
    clear hK K
    try simp only [pu]
    refine lateP_one (i := 8) rfl (by kernel_rfl) (fun K hK => ?_)
    obtain ⟨A7, c7, hv7, -⟩ := hO7.form
    refine step_append _ rfl (.tmp 22) (.tmp 28) rfl sl_items2 RItem.fair rfl rfl hO7 (Src.one (es := [.string q.number.2.word.1, .int .i64 q.number.1]) (y := ItemD.mk q.number.2.word.1 q.number.1) rfl (Ones.of_all rfl) rfl hB7.lies) (NoT.lt _) (by have := HI.out.2.2.1; simp; omega) hG7.size ?_
    intro v8 w8 hO8 hg8 hv8
    clear hv8
    obtain ⟨A8, c8, hv8, -⟩ := hO8.form
    subst hv8
    generalize (acc ++ [ItemD.mk q.number.2.word.1 q.number.1]).length = n8 at hO8 ⊢
    have h8 := h7.grown hg8 (fun k e => by have := (hO7.lt e).1; exact ⟨fun hk => by have := HSw.out k hk; omega, by omega⟩)
    have hX8 := hX7.grown hg8 (hX7.ne_own hO7 (by decide))
    have hZ8 := hZ7.grown hg8 (hZ7.ne_own hO7 (by decide))
    have hG8 := grown_via hG7 hg8 (.inr (fun k e => (hO7.lt e).1))
    replace hS : (fun W' => World.cell? W' ⟨X, 4, none⟩ = some v) w8 := hX8.cell 4
    clear hX7 hZ7 hO7 hG7 hg8 h7 hB7 hv7 hne5
    refine hK.out _ _ (fun _ _ => hS) ?_
    clear hK K
    try simp only [pu]
    refine ppP 9 ?_
    try simp only [pu]
    have f4 := hX8.frozen 4
    have c4 := hX8.cell 4
    have lX := hX8.lt
    have hnX : ¬ (S X ∨ X = g) := fun h => h.elim (fun h => by have := HSw.out X h; omega) (fun h => by omega)
    have h9 := h8.keep (Keep.setCell w8 (a := ⟨X, 4, none⟩) (Value.slice A8 n8 c8) hnX)
    have hO9 := hO8.setCell RItem.fair (p := ⟨X, 4, none⟩) (Value.slice A8 n8 c8) (hX8.ne_own hO8 (by decide)) (fun h => h)
    have hX9 := hX8.set_ 4 (Value.slice A8 n8 c8)
    have hZ9 := hZ8.far (p := ⟨X, 4, none⟩) (show w.heap.size ≠ X by omega) (Value.slice A8 n8 c8)
    have hG9 := grown_setCell hG8 (p := ⟨X, 4, none⟩) (.inr (show w.heap.size ≤ X by omega)) (Value.slice A8 n8 c8)
    clear h8 hO8 hX8 hZ8 hG8
    refine lateP_one (i := 10) rfl (by kernel_rfl) (fun K hK => ?_)
    go_simp
    refine hK.out _ _ (fun h => absurd h (by decide)) ?_
    clear hK K
    try simp only [pu]
    refine lateP_done (by kernel_rfl) ?_ _
    clear hS f4 c4 lX
    generalize (World.setCell w8 _ _) = w9 at h9 hO9 hX9 hZ9 hG9 ⊢
    go_wp2_with fail
    refine (htake.out _ _ _ h9).mono ?_
    rintro e w10 ⟨rfl, h10, hg10⟩
    have hne9 : (Value.slice A8 n8 c8).ownBlock ≠ some g := fun e => by have := (hO9.lt e).1; omega
    have hX10 := hX9.grown hg10 (by intro e; injection e with e; omega)
    have hZ10 := hZ9.grown hg10 (by intro e; injection e with e; omega)
    have hO10 := hO9.kept RItem.fair hg10 (.inr hne9) (fun _ _ h => h)
    have hG10 := grown_via hG9 hg10 (.inl rfl)
    have H10 := Lib.hid h10.m
    clear hX9 hZ9 hO9 hG9 h9 hg10 hne9 hnX
    go_wp2_with fail
    go_roundw
    case rel =>
     obtain ⟨i1, i2, i3, i4, i5⟩ := HI.out
     obtain ⟨k', hk1, hk2⟩ := items_step acc Hbad.out Hq.out i2
     have hm := rdM_number Hbad.out
     have hm2 := rdM_word q.number.2
     have hm3 := rdM_take q.number.2.word.2 wEnd
     refine ⟨q.number.2.word.2.take wEnd, acc ++ [⟨q.number.2.word.1, q.number.1⟩], Value.slice A8 n8 c8, k', h10, hX10, hZ10, hO10, hG10, (show _ ∧ _ from ⟨i1.number.word.take _, hk1, by simp; omega, ?_, by rw [i5, hk2]⟩)⟩
     intro x hx
     rcases List.mem_append.1 hx with hx | hx
     ·exact i4 x hx
     ·rw [List.mem_singleton.1 hx]; exact number_q _ i1.number.next.2
    case measure =>
     have hm := rdM_number Hbad.out
     have hm2 := rdM_word q.number.2
     have hm3 := rdM_take q.number.2.word.2 wEnd
     show rdMw w10 g < rdMw wr g
     have e1 : rdMw w10 g = rdM (q.number.2.word.2.take wEnd) := H10.out
     have e2 := hM.out
     omega
end Go.Proofs.YtfobdbhmfohfnaaGreatDoor
