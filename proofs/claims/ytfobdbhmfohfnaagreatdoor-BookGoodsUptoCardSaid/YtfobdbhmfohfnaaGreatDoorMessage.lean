/- The walk of the reader's message. -/
import Derived.Test.YtfobdbhmfohfnaaGreatDoorEnum
import Derived.Test.YtfobdbhmfohfnaaGreatDoorStableField
import Derived.Test.YtfobdbhmfohfnaaGreatDoorWalks
import Derived.Test.YtfobdbhmfohfnaaGreatDoorSortInts
set_option linter.all false
set_option maxRecDepth 100000
set_option maxHeartbeats 8000000
namespace Go.Proofs.YtfobdbhmfohfnaaGreatDoor
open Go.RowKit
theorem sl_fields2 : SlInfo Tryz.prog 36 44 5 56 := SlInfo.mk (z := .agg #[.int .i64 0, .string .empty, .string .empty, .int .i64 0, .int .i64 0]) Tryz.underlying36 (by decide) (by decide) (by kernel_rfl) rfl
theorem sl_ints2 : SlInfo Tryz.prog 37 3 1 8 := SlInfo.mk (z := .int .i64 0) Tryz.underlying37 (by decide) (by decide) (by kernel_rfl) rfl
def Lists (w : World) : Prop := (∃ e, Box w 1 e (rulesL.map Value.string)) ∧ ∃ e, Box w 0 e (kindsL.map Value.string)
theorem Lists.below {w w' : World} (h : Lists w) (hb : Below w.heap.size w w') : Lists w' := by
 obtain ⟨⟨e1, h1⟩, ⟨e2, h2⟩⟩ := h
 exact ⟨⟨e1, h1.below hb h1.lt⟩, ⟨e2, h2.below hb h2.lt⟩⟩
theorem row_of_box {w : World} {g e : Nat} {l : List ByteArray} (h : Box w g e (l.map Value.string)) (hl : l.length ≤ 100) : RSl 1 16 RStr (fun _ => True) w [.slice (some ⟨g, 0, none⟩) l.length l.length] l :=
 ⟨_, _, rfl, Nat.le_refl _, by omega, fun k x hk => by
  have hlt : k < l.length := by
   rcases Nat.lt_or_ge k l.length with h | h
   ·exact h
   ·rw [List.getElem?_eq_none h] at hk; cases hk
  refine ⟨g, 0, [.string x], rfl, trivial, h.lt, rfl, rfl, fun j hj => ?_⟩
  have hj0 : j = 0 := by simpa using hj
  subst hj0
  rw [h.cell]
  simp [hk]⟩
theorem gone_step {r : Rd} {k : Nat} (gs : List Int) (h1 : r.bad = false) (h2 : r.at_ wEnd = false) (h3 : rdM r ≤ k) : ∃ k', rdM r.number.2 ≤ k' ∧ goneRF k r gs = goneRF k' r.number.2 (gs ++ [r.number.1]) := by
 have a := rdM_number h1
 cases k with
 | zero => omega
 | succ k => exact ⟨k, by omega, by rw [goneRF, if_pos ⟨h1, h2⟩]⟩
theorem gone_stop {r : Rd} (k : Nat) (gs : List Int) (h : ¬ (r.bad = false ∧ r.at_ wEnd = false)) : goneRF k r gs = (gs, r) := by
 cases k with
 | zero => rfl
 | succ k => rw [goneRF, if_neg h]
theorem lines_stop {r : Rd} (k : Nat) (fs : List FieldD) (gs : List Int) (h : ¬ (r.bad = false ∧ r.at_ wShut = false)) : linesF k r fs gs = (fs, gs, r) := by
 cases k with
 | zero => rfl
 | succ k => rw [linesF, if_neg h]
theorem lines_gone {r q' : Rd} {k : Nat} {fs : List FieldD} {gs gs' : List Int} (h1 : r.bad = false) (h2 : r.at_ wShut = false) (h3 : r.at_ wGone = true) (h4 : rdM r ≤ k) (hg : goneRF (r.l.length + 2) r.next.2 gs = (gs', q')) (hm : rdM q' ≤ rdM r.next.2) :
  ∃ k', rdM (q'.take wEnd) ≤ k' ∧ linesF k r fs gs = linesF k' (q'.take wEnd) fs gs' := by
 have a := rdM_less h1
 have b := rdM_take q' wEnd
 cases k with
 | zero => omega
 | succ k => exact ⟨k, by omega, by rw [linesF, if_pos ⟨h1, h2⟩, if_pos h3, hg]⟩
theorem rdM_field {r : Rd} (h : r.bad = false) : rdM (fieldRF r).2 < rdM r := by
 have a := rdM_number h
 have b := rdM_next r.number.2
 have c := rdM_word r.number.2.next.2
 have d := rdM_word r.number.2.next.2.word.2
 have e : rdM (fieldRF r).2 ≤ rdM r.number.2.next.2.word.2.word.2 := by
  unfold fieldRF rdM; dsimp only
  by_cases hb : r.number.2.next.2.word.2.word.2.bad = true
  ·simp [hb]
  ·simp only [hb]; simp; split <;> omega
 omega
theorem Small.field {r : Rd} (h : Small r) : Small (fieldRF r).2 := h.number.next.1.word.word.told _
theorem lines_field {r : Rd} {k : Nat} {fs : List FieldD} {gs : List Int} (h1 : r.bad = false) (h2 : r.at_ wShut = false) (h3 : r.at_ wGone = false) (h4 : rdM r ≤ k) :
  ∃ k', rdM ((fieldRF r).2.take wEnd) ≤ k' ∧ linesF k r fs gs = linesF k' ((fieldRF r).2.take wEnd) (fs ++ [(fieldRF r).1]) gs := by
 have a := rdM_field h1
 have b := rdM_take (fieldRF r).2 wEnd
 cases k with
 | zero => omega
 | succ k => exact ⟨k, by omega, by rw [linesF, if_pos ⟨h1, h2⟩, if_neg (by rw [h3]; simp)]⟩
theorem field_q {r : Rd} (h : Small r) : QField (fieldRF r).1 := ⟨(number_in r).1, (number_in r).2, h.number.next.1.word.next.2, by
 unfold fieldRF; dsimp only; split
 ·exact Nat.zero_le _
 ·exact h.number.next.1.next.2⟩
theorem own_ne {α β : Type} {R : Rel α} {R' : Rel β} {base base' e e' sz sz' : Nat} {T T' : Nat → Prop} {w : World} {v v' : Value} {xs : List α} {ys : List β} (h : Own base e sz R T w v xs) (h' : Own base' e' sz' R' T' w v' ys) (hne : e ≠ e') : v.ownBlock = none ∨ v.ownBlock ≠ v'.ownBlock := by
 obtain ⟨css, h1, _⟩ := h
 obtain ⟨css', h2, _⟩ := h'
 rcases h1.2 with ⟨rfl, _⟩ | ⟨g, cap, cur, rfl, _, hh, _⟩
 ·exact .inl rfl
 ·refine .inr ?_
  rcases h2.2 with ⟨rfl, _⟩ | ⟨g', cap', cur', rfl, _, hh', _⟩
  ·simp [Value.ownBlock]
  ·intro he
   have : g = g' := by simpa [Value.ownBlock] using he
   subst this
   rw [hh] at hh'
   injection hh' with hh'
   injection hh' with _ ht
   exact hne ht
theorem own_setCells {α : Type} {R : Rel α} {base e sz g : Nat} {v : Value} {xs : List α} (hR : Fair R) (hv : v.ownBlock ≠ some g) : ∀ (vs : List Value) (i : Nat) (w : World), Own base e sz R NoT w v xs → Own base e sz R NoT (Go.Proofs.YtfobdbhmfohfnaaGreatDoor.setCells w g i vs) v xs
 | [], _, _, h => h
 | u :: vs, i, w, h => own_setCells hR hv vs (i + 1) _ (h.setCell hR (p := ⟨g, i, none⟩) u hv (fun h => h))
theorem message_results {W : World} {a : Act} {g : Nat} {c0 c1 c2 c3 c4 : Value} (hb : Box W g 40 [c0, c1, c2, c3, c4]) (h4 : a.tmps.getD 2 undef = .pointer (some ⟨g, 0, none⟩)) :
  (results Tryz.f37 a.tmps).run Tryz.prog W = .ok (.agg #[c0, c1, c2, c3, c4]) W := by
 obtain ⟨e0, e1, e2, e3, e4⟩ := hb.five
 simp only [Array.getD_eq_getD_getElem?] at h4
 simp [results, Tryz.results37, go_sem, h4, e0, e1, e2, e3, e4]
theorem rmessage_any (S : Nat → Prop) (g : Nat) (r : Rd) (B w : World) (h : Rdr S w g r) (hS : ¬ S g) (hSw : ∀ k, S k → k < w.heap.size) (hz : Small r) (hN : Nums B) (hL : Lists B) (hB : Below B.heap.size B w) (hg : B.heap.size ≤ g) : Calls Tryz.prog 37 #[.pointer (some ⟨g, 0, none⟩)] w (TypeEnd S w g (messageRF r)) := by
 have hgw := h.lt
 obtain ⟨r1, hr1⟩ : ∃ x, x = r.word.2 := ⟨_, rfl⟩
 obtain ⟨nm, hnm⟩ : ∃ x, x = r.word.1 := ⟨_, rfl⟩
 have Hnz : Hid (nm.size ≤ 4000) := by show nm.size ≤ 4000; rw [hnm]; exact hz.next.2
 obtain ⟨r2, hr2⟩ : ∃ x, x = r1.take wOpen := ⟨_, rfl⟩
 obtain ⟨er, her⟩ : ∃ x, x = messageRF r := ⟨_, rfl⟩
 have Her : Hid (er = (⟨nm, false, sortS ltField (linesF (r2.l.length + 2) r2 [] []).1, sortS ltInt (linesF (r2.l.length + 2) r2 [] []).2.1, []⟩, (linesF (r2.l.length + 2) r2 [] []).2.2.take wShut)) := by show _ = _; rw [her, hr2, hr1, hnm]; rfl
 rw [← her]
 have Hs2 : Hid (Small r2) := by show Small r2; rw [hr2, hr1]; exact hz.word.take _
 have hword := Lib.hid (fun W (hW : Rdr S W g r) => word_any S g r W hW hS (by have := hz.next.2; omega))
 have htake := Lib.hid (fun (q : Rd) (s : ByteArray) W (hW : Rdr S W g q) => take_any S g q s W hW hS)
 have hnxt := Lib.hid (fun (q : Rd) W (hW : Rdr S W g q) => next_any S g q W hW hS)
 have hnum := Lib.hid (fun (q : Rd) W (hW : Rdr S W g q) (hs : Small q) (hg' : w.grownBy W (some g)) => rnumber_any S g q B W hW hS hs.next.2 hN (below_grown hB hg' hB.size (fun g' e => by injection e with e; omega)) hg)
 have hlst := Lib.hid (fun W (hg' : w.grownBy W (some g)) => hL.below (below_grown hB hg' hB.size (fun g' e => by injection e with e; omega)))
 have hwrd := Lib.hid (fun (q : Rd) W (hW : Rdr S W g q) (hs : Small q) => word_any S g q W hW hS (by have := hs.next.2; omega))
 have HS := Lib.hid hS
 have HSw := Lib.hid hSw
 rw [← hr1, ← hnm] at hword
 have Hr2 := Lib.hid hr2
 have hR0 := h.keep (Keep.alloc _ w (.cells [.string ⟨#[]⟩, .bool false, .slice none 0 0, .slice none 0 0, .slice none 0 0].toArray 40))
 have hZ0 := Box.new w 40 [.string ⟨#[]⟩, .bool false, .slice none 0 0, .slice none 0 0, .slice none 0 0]
 have hG0 := grown_alloc (row := some g) (grown_below (Below.refl w.heap.size w) (some g)) (.cells [.string ⟨#[]⟩, .bool false, .slice none 0 0, .slice none 0 0, .slice none 0 0].toArray 40)
 clear h hS hSw hz hN hL hB hg hr1 hnm her hr2
 go_enter Tryz.func37, Tryz.ntmps37
 go_wp2_with fail
 generalize (World.alloc w (.cells _ _)) = w0 at hR0 hZ0 hG0 ⊢
 refine (hword.out _ hR0).mono ?_
 rintro e w1 ⟨rfl, h1, hg1⟩
 go_wp2_with fail
 have hR1 := h1.keep (Keep.alloc _ w1 (.cells [.string nm, .bool false, Value.slice none 0 0, Value.slice none 0 0, .slice none 0 0].toArray 40))
 have hX1 := Box.new w1 40 [.string nm, .bool false, Value.slice none 0 0, Value.slice none 0 0, .slice none 0 0]
 have hZ1 := (hZ0.grown hg1 (by intro e; injection e with e; omega)).alloc (.cells [.string nm, .bool false, Value.slice none 0 0, Value.slice none 0 0, .slice none 0 0].toArray 40)
 have hG1 := grown_alloc (grown_via hG0 hg1 (.inl rfl)) (.cells [.string nm, .bool false, Value.slice none 0 0, Value.slice none 0 0, .slice none 0 0].toArray 40)
 have hzx : w.heap.size < w1.heap.size := by have := hZ0.lt; have := hg1.size; omega
 generalize w1.heap.size = X at hX1 hzx ⊢
 generalize (World.alloc w1 (.cells _ _)) = w2 at hR1 hX1 hZ1 hG1 ⊢
 refine (htake.out _ _ _ hR1).mono ?_
 rintro e w3 ⟨rfl, h3, hg3⟩
 replace h3 : Rdr S w3 g r2 := by rw [Hr2.out]; exact h3
 have hX3 := hX1.grown hg3 (by intro e; injection e with e; omega)
 have hZ3 := hZ1.grown hg3 (by intro e; injection e with e; omega)
 have hG3 := grown_via hG1 hg3 (.inl rfl)
 clear hR1 hX1 hZ1 hG1 hg3 hR0 hZ0 hG0 hg1 h1
 go_wp2_with fail
 go_loopw [] (fun wr => ∃ (q : Rd) (fs : List FieldD) (gs : List Int) (vf vg : Value) (k : Nat), Rdr S wr g q ∧ Box wr X 40 [.string nm, .bool false, vf, vg, .slice none 0 0] ∧ Box wr w.heap.size 40 [.string ⟨#[]⟩, .bool false, .slice none 0 0, .slice none 0 0, .slice none 0 0] ∧ Own w.heap.size 44 5 RField NoT wr vf fs ∧ Own w.heap.size 3 1 RInt NoT wr vg gs ∧ w.grownBy wr (some g) ∧ Hid (Small q ∧ rdM q ≤ k ∧ (fs).length + (gs).length + rdM q ≤ 4001 ∧ (∀ x ∈ (fs), QField x) ∧ linesF (r2.l.length + 2) r2 [] [] = linesF k q fs gs)) (fun wr => rdMw wr g)
 case atStart => exact ⟨r2, [], [], _, _, r2.l.length + 2, h3, hX3, hZ3, Own.nil_ _ _ _ _ _ _, Own.nil_ _ _ _ _ _ _, hG3, (show _ ∧ _ from ⟨Hs2.out, by unfold rdM; split <;> omega, by have := Hs2.out.1; unfold rdM; simp; split <;> omega, (fun x hx => by cases hx), rfl⟩)⟩
 case round =>
  clear h3 hX3 hZ3 hG3
  obtain ⟨q, fs, gs, vf, vg, k, hR, hX, hZ, hO, hP, hG, HI⟩ := hrel
  have hat := Lib.hid (at_any S g q wShut wr hR)
  have hM := Lib.hid hR.m
  obtain ⟨uv, hbx, -⟩ := Lib.hid hR |>.out
  have c1 : wr.cell? ⟨g, 1, none⟩ = some (.bool q.bad) := hbx.cell 1
  have hl := hbx.lt
  clear hbx
  by_cases hbad : q.bad = true
  ·--[BAD
   have Hst : Hid (linesF k q fs gs = (fs, gs, q)) := by show _ = _; exact lines_stop k fs gs (by rw [hbad]; simp)
   rw [hbad] at c1
   clear hbad
   go_wp2_with fail
   refine (htake.out q wShut wr hR).mono ?_
   rintro e w4 ⟨rfl, h4, hg4⟩
   have hneO : vf.ownBlock ≠ some g := fun e => by have := (hO.lt e).1; omega
   have hneP : vg.ownBlock ≠ some g := fun e => by have := (hP.lt e).1; omega
   have hX4 := hX.grown hg4 (by intro e; injection e with e; omega)
   have hZ4 := hZ.grown hg4 (by intro e; injection e with e; omega)
   have hO4 := hO.kept RField.fair hg4 (.inr hneO) (fun _ _ h => h)
   have hP4 := hP.kept RInt.fair hg4 (.inr hneP) (fun _ _ h => h)
   have hG4 := grown_via hG hg4 (.inl rfl)
   have c44 := hX4.cell 2
   have lX4 := hX4.lt
   clear hR hX hZ hO hP hG hneO hneP
   go_wp2_with fail
   refine (sortStableField_any _ _ vf fs w4 hO4 (by have := HI.out.2.2.1; omega) HI.out.2.2.2.1).mono ?_
   rintro e w5 ⟨rfl, ys, hyl, hyq, hO5, hg5, hys⟩
   have hX5 := hX4.grown hg5 (hX4.ne_own hO4 (by decide))
   have hZ5 := hZ4.grown hg5 (hZ4.ne_own hO4 (by decide))
   have hP5 := hP4.kept RInt.fair hg5 (own_ne hP4 hO4 (by decide)) (fun _ _ h => h)
   have hG5 := grown_via hG4 hg5 (.inr (fun k e => (hO4.lt e).1))
   have h5 := h4.grown hg5 (fun k e => by have := (hO4.lt e).1; exact ⟨fun hk => by have := HSw.out k hk; omega, by omega⟩)
   have c55 := hX5.cell 3
   have lX5 := hX5.lt
   have Hyq := Lib.hid hyq
   clear h4 hX4 hZ4 hO4 hP4 hG4 c44 lX4 hyq hg4 hg5
   go_wp2_with fail
   refine (sortInts_any _ vg gs w5 hP5 (by have := HI.out.2.2.1; omega)).mono ?_
   rintro e w6 ⟨rfl, hg6, hri⟩
   have hX6 := hX5.grown hg6 (hX5.ne_own hP5 (by decide))
   have hZ6 := hZ5.grown hg6 (hZ5.ne_own hP5 (by decide))
   have hO6 := hO5.kept RField.fair hg6 (own_ne hO5 hP5 (by decide)) (fun _ _ h => h)
   have hG6 := grown_via hG5 hg6 (.inr (fun k e => (hP5.lt e).1))
   have h6 := h5.grown hg6 (fun k e => by have := (hP5.lt e).1; exact ⟨fun hk => by have := HSw.out k hk; omega, by omega⟩)
   have hnZ : ¬ (S w.heap.size ∨ w.heap.size = g) := fun h => h.elim (fun h => by have := HSw.out _ h; omega) (fun h => by omega)
   have HR := Lib.hid (h6.keep (Keep.setCells hnZ [.string nm, .bool false, vf, vg, .slice none 0 0] 0 w6))
   have HG := Lib.hid (grown_setCells (Nat.le_refl w.heap.size) [.string nm, .bool false, vf, vg, .slice none 0 0] 0 w6 hG6)
   have HZ := Lib.hid (hZ6.setCells [.string nm, .bool false, vf, vg, .slice none 0 0] rfl)
   have HF6 := Lib.hid (own_setCells RField.fair (hZ6.ne_own hO6 (by decide)) [.string nm, .bool false, vf, vg, .slice none 0 0] 0 w6 hO6)
   have HI6 := Lib.hid ((RSl.fair RInt.fair).mono ((RSl.fair RInt.fair).keep ((RSl.fair RInt.fair).mono (T := fun y => (w.heap.size ≤ y ∧ vf.ownBlock ≠ some y) ∧ y ≠ w.heap.size) hri (fun y e _ => ⟨⟨(hP5.lt e).1, fun h => (own_ne hO5 hP5 (by decide)).elim (fun h0 => by rw [h0] at h; cases h) (fun h0 => h0 (by rw [h, e]))⟩, fun h => hZ5.ne_own hP5 (by decide) (by rw [e, h])⟩)) (Keep.setCells (fun h => h.2 rfl) [.string nm, .bool false, vf, vg, .slice none 0 0] 0 w6)) (fun y h _ => h.1))
   have Hys := Lib.hid hys
   have Hyl := Lib.hid hyl
   obtain ⟨Av, cv, hv, -⟩ := hO6.form
   obtain ⟨Ag, cg, hv2, -⟩ := hP5.form
   subst hv hv2
   obtain ⟨c0, c1, c2, c3, c4⟩ := hX6.five
   obtain ⟨d0, d1, d2, d3, d4⟩ := hZ6.five
   have f0 := hZ6.frozen 0
   have f1 := hZ6.frozen 1
   have f2 := hZ6.frozen 2
   have f3 := hZ6.frozen 3
   have f4 := hZ6.frozen 4
   have lX := hX6.lt
   have lZ := hZ6.lt
   clear hX6 hX5 hZ6 hZ5 hG6 hG5 hO6 hO5 hP5 h6 h5 hnZ hg6 hys hyl hri c55 lX5
   go_wp2_with fail
   change bodyPost _ _ _ _ _ (Go.Proofs.YtfobdbhmfohfnaaGreatDoor.setCells w6 w.heap.size 0 [.string nm, .bool false, Value.slice Av ys.length cv, Value.slice Ag gs.length cg, .slice none 0 0])
   refine bodyPost_ret (message_results HZ.out rfl) rfl ?_
   have Hr5 := HI.out.2.2.2.2
   rw [Hst.out] at Hr5
   refine ⟨_, _, _, ⟨nm, false, ys, sortS ltInt gs, []⟩, rfl, HF6.out, HI6.out, RSl.nil_, ?_, ?_, HG.out⟩
   ·rw [Her.out, Hr5]
    exact ⟨rfl, rfl, by show ys.length = (sortS ltField fs).length; rw [Hyl.out, sortS_len], fun h => Hys.out (by have h' : (sortS ltField fs).length < 20 := h; rwa [sortS_len] at h'), rfl, rfl, fun _ => rfl, ⟨Hnz.out, (by show ys.length ≤ 5000; rw [Hyl.out]; have := HI.out.2.2.1; omega), fun x hx => (Hyq.out x hx).2.2, fun x hx => (by cases hx)⟩⟩
   ·rw [Her.out, Hr5]; exact HR.out
  ·have hbad : q.bad = false := by simpa using hbad
   have Hbad := Lib.hid hbad
   rw [hbad] at c1
   clear hbad
   go_upto_region 5 with fail
   refine hat.out.mono ?_
   rintro e w3 ⟨rfl, hb3⟩
   have hR3 := hR.below hb3
   have hX3 := hX.below hb3 hX.lt
   have hZ3 := hZ.below hb3 hZ.lt
   have hO3 := hO.below RField.fair hb3
   have hP3 := hP.below RInt.fair hb3
   have hG3 := grown_via hG (grown_below hb3 (some g)) (.inl rfl)
   clear hR hX hZ hO hP hG hb3 c1 hl hat
   cases hq : q.at_ wShut with
   | true =>
    have Hst : Hid (linesF k q fs gs = (fs, gs, q)) := by show _ = _; exact lines_stop k fs gs (by rw [hq]; simp)
    clear hq
    go_wp2_with fail
    refine (htake.out q wShut w3 hR3).mono ?_
    rintro e w4 ⟨rfl, h4, hg4⟩
    have hneO : vf.ownBlock ≠ some g := fun e => by have := (hO3.lt e).1; omega
    have hneP : vg.ownBlock ≠ some g := fun e => by have := (hP3.lt e).1; omega
    have hX4 := hX3.grown hg4 (by intro e; injection e with e; omega)
    have hZ4 := hZ3.grown hg4 (by intro e; injection e with e; omega)
    have hO4 := hO3.kept RField.fair hg4 (.inr hneO) (fun _ _ h => h)
    have hP4 := hP3.kept RInt.fair hg4 (.inr hneP) (fun _ _ h => h)
    have hG4 := grown_via hG3 hg4 (.inl rfl)
    have c44 := hX4.cell 2
    have lX4 := hX4.lt
    clear hR3 hX3 hZ3 hO3 hP3 hG3 hneO hneP
    go_wp2_with fail
    refine (sortStableField_any _ _ vf fs w4 hO4 (by have := HI.out.2.2.1; omega) HI.out.2.2.2.1).mono ?_
    rintro e w5 ⟨rfl, ys, hyl, hyq, hO5, hg5, hys⟩
    have hX5 := hX4.grown hg5 (hX4.ne_own hO4 (by decide))
    have hZ5 := hZ4.grown hg5 (hZ4.ne_own hO4 (by decide))
    have hP5 := hP4.kept RInt.fair hg5 (own_ne hP4 hO4 (by decide)) (fun _ _ h => h)
    have hG5 := grown_via hG4 hg5 (.inr (fun k e => (hO4.lt e).1))
    have h5 := h4.grown hg5 (fun k e => by have := (hO4.lt e).1; exact ⟨fun hk => by have := HSw.out k hk; omega, by omega⟩)
    have c55 := hX5.cell 3
    have lX5 := hX5.lt
    have Hyq := Lib.hid hyq
    clear h4 hX4 hZ4 hO4 hP4 hG4 c44 lX4 hyq hg4 hg5
    go_wp2_with fail
    refine (sortInts_any _ vg gs w5 hP5 (by have := HI.out.2.2.1; omega)).mono ?_
    rintro e w6 ⟨rfl, hg6, hri⟩
    have hX6 := hX5.grown hg6 (hX5.ne_own hP5 (by decide))
    have hZ6 := hZ5.grown hg6 (hZ5.ne_own hP5 (by decide))
    have hO6 := hO5.kept RField.fair hg6 (own_ne hO5 hP5 (by decide)) (fun _ _ h => h)
    have hG6 := grown_via hG5 hg6 (.inr (fun k e => (hP5.lt e).1))
    have h6 := h5.grown hg6 (fun k e => by have := (hP5.lt e).1; exact ⟨fun hk => by have := HSw.out k hk; omega, by omega⟩)
    have hnZ : ¬ (S w.heap.size ∨ w.heap.size = g) := fun h => h.elim (fun h => by have := HSw.out _ h; omega) (fun h => by omega)
    have HR := Lib.hid (h6.keep (Keep.setCells hnZ [.string nm, .bool false, vf, vg, .slice none 0 0] 0 w6))
    have HG := Lib.hid (grown_setCells (Nat.le_refl w.heap.size) [.string nm, .bool false, vf, vg, .slice none 0 0] 0 w6 hG6)
    have HZ := Lib.hid (hZ6.setCells [.string nm, .bool false, vf, vg, .slice none 0 0] rfl)
    have HF6 := Lib.hid (own_setCells RField.fair (hZ6.ne_own hO6 (by decide)) [.string nm, .bool false, vf, vg, .slice none 0 0] 0 w6 hO6)
    have HI6 := Lib.hid ((RSl.fair RInt.fair).mono ((RSl.fair RInt.fair).keep ((RSl.fair RInt.fair).mono (T := fun y => (w.heap.size ≤ y ∧ vf.ownBlock ≠ some y) ∧ y ≠ w.heap.size) hri (fun y e _ => ⟨⟨(hP5.lt e).1, fun h => (own_ne hO5 hP5 (by decide)).elim (fun h0 => by rw [h0] at h; cases h) (fun h0 => h0 (by rw [h, e]))⟩, fun h => hZ5.ne_own hP5 (by decide) (by rw [e, h])⟩)) (Keep.setCells (fun h => h.2 rfl) [.string nm, .bool false, vf, vg, .slice none 0 0] 0 w6)) (fun y h _ => h.1))
    have Hys := Lib.hid hys
    have Hyl := Lib.hid hyl
    obtain ⟨Av, cv, hv, -⟩ := hO6.form
    obtain ⟨Ag, cg, hv2, -⟩ := hP5.form
    subst hv hv2
    obtain ⟨c0, c1, c2, c3, c4⟩ := hX6.five
    obtain ⟨d0, d1, d2, d3, d4⟩ := hZ6.five
    have f0 := hZ6.frozen 0
    have f1 := hZ6.frozen 1
    have f2 := hZ6.frozen 2
    have f3 := hZ6.frozen 3
    have f4 := hZ6.frozen 4
    have lX := hX6.lt
    have lZ := hZ6.lt
    clear hX6 hX5 hZ6 hZ5 hG6 hG5 hO6 hO5 hP5 h6 h5 hnZ hg6 hys hyl hri c55 lX5
    go_wp2_with fail
    change bodyPost _ _ _ _ _ (Go.Proofs.YtfobdbhmfohfnaaGreatDoor.setCells w6 w.heap.size 0 [.string nm, .bool false, Value.slice Av ys.length cv, Value.slice Ag gs.length cg, .slice none 0 0])
    refine bodyPost_ret (message_results HZ.out rfl) rfl ?_
    have Hr5 := HI.out.2.2.2.2
    rw [Hst.out] at Hr5
    refine ⟨_, _, _, ⟨nm, false, ys, sortS ltInt gs, []⟩, rfl, HF6.out, HI6.out, RSl.nil_, ?_, ?_, HG.out⟩
    ·rw [Her.out, Hr5]
     exact ⟨rfl, rfl, by show ys.length = (sortS ltField fs).length; rw [Hyl.out, sortS_len], fun h => Hys.out (by have h' : (sortS ltField fs).length < 20 := h; rwa [sortS_len] at h'), rfl, rfl, fun _ => rfl, ⟨Hnz.out, (by show ys.length ≤ 5000; rw [Hyl.out]; have := HI.out.2.2.1; omega), fun x hx => (Hyq.out x hx).2.2, fun x hx => (by cases hx)⟩⟩
    ·rw [Her.out, Hr5]; exact HR.out
   | false =>
    have Hq := Lib.hid hq
    clear hq
    go_wp2_with fail
    refine (at_any S g q wGone w3 hR3).mono ?_
    rintro e w4 ⟨rfl, hb4⟩
    have hR4 := hR3.below hb4
    have hX4 := hX3.below hb4 hX3.lt
    have hZ4 := hZ3.below hb4 hZ3.lt
    have hO4 := hO3.below RField.fair hb4
    have hP4 := hP3.below RInt.fair hb4
    have hG4 := grown_via hG3 (grown_below hb4 (some g)) (.inl rfl)
    clear hR3 hX3 hZ3 hO3 hP3 hG3 hb4
    cases hq2 : q.at_ wGone with
    | true =>
     have Hq2 := Lib.hid hq2
     clear hq2
     go_wp2_with fail
     refine (hnxt.out q w4 hR4).mono ?_
     rintro e w5 ⟨rfl, h5, hg5⟩
     have hneO : vf.ownBlock ≠ some g := fun e => by have := (hO4.lt e).1; omega
     have hneP : vg.ownBlock ≠ some g := fun e => by have := (hP4.lt e).1; omega
     have hX5 := hX4.grown hg5 (by intro e; injection e with e; omega)
     have hZ5 := hZ4.grown hg5 (by intro e; injection e with e; omega)
     have hO5 := hO4.kept RField.fair hg5 (.inr hneO) (fun _ _ h => h)
     have hP5 := hP4.kept RInt.fair hg5 (.inr hneP) (fun _ _ h => h)
     have hG5 := grown_via hG4 hg5 (.inl rfl)
     clear hR4 hX4 hZ4 hO4 hP4 hG4 hneP
     go_wp2_with fail
     go_loopw [] (fun wi => ∃ (q' : Rd) (gs' : List Int) (vg' : Value) (k' : Nat), Rdr S wi g q' ∧ Box wi X 40 [.string nm, .bool false, vf, vg', .slice none 0 0] ∧ Box wi w.heap.size 40 [.string ⟨#[]⟩, .bool false, .slice none 0 0, .slice none 0 0, .slice none 0 0] ∧ Own w.heap.size 44 5 RField NoT wi vf fs ∧ Own w.heap.size 3 1 RInt NoT wi vg' gs' ∧ w.grownBy wi (some g) ∧ Hid (Small q' ∧ rdM q' ≤ k' ∧ rdM q' ≤ rdM q.next.2 ∧ fs.length + gs'.length + rdM q' ≤ 4001 ∧ goneRF (q.l.length + 2) q.next.2 gs = goneRF k' q' gs')) (fun wi => rdMw wi g)
     case atStart =>
      refine ⟨q.next.2, gs, vg, q.l.length + 2, h5, hX5, hZ5, hO5, hP5, hG5, (show _ ∧ _ from ⟨HI.out.1.next.1, ?_, Nat.le_refl _, ?_, rfl⟩)⟩
      ·have a := rdM_next q
       have b : rdM q ≤ q.l.length + 1 := by unfold rdM; split <;> omega
       omega
      ·have a := rdM_next q
       have b := HI.out.2.2.1
       omega
     case round =>
      clear h5 hX5 hZ5 hO5 hP5 hG5 hg5
      obtain ⟨q', gs', vg', k', jR, jX, jZ, jO, jP, jG, HJ⟩ := hrel
      have jat := Lib.hid (at_any S g q' wEnd _ jR)
      have jM := Lib.hid jR.m
      obtain ⟨uv, hbx, -⟩ := Lib.hid jR |>.out
      have c1 := hbx.cell 1
      have f1 := hbx.frozen 1
      have hl := hbx.lt
      simp only [List.getElem?_cons_zero, List.getElem?_cons_succ] at c1
      clear hbx f1
      by_cases hbad : q'.bad = true
      ·--[GB
       have Hst : Hid (goneRF k' q' gs' = (gs', q')) := by show _ = _; exact gone_stop k' gs' (by rw [hbad]; simp)
       rw [hbad] at c1
       clear hbad
       go_wp2_with fail
       refine (htake.out q' wEnd _ jR).mono ?_
       rintro e w10 ⟨rfl, h10, hg10⟩
       have hneP9 : vg'.ownBlock ≠ some g := fun e => by have := (jP.lt e).1; omega
       have hX10 := jX.grown hg10 (by intro e; injection e with e; omega)
       have hZ10 := jZ.grown hg10 (by intro e; injection e with e; omega)
       have hO10 := jO.kept RField.fair hg10 (.inr hneO) (fun _ _ h => h)
       have hP10 := jP.kept RInt.fair hg10 (.inr hneP9) (fun _ _ h => h)
       have hG10 := grown_via jG hg10 (.inl rfl)
       have H10 := Lib.hid h10.m
       clear jX jZ jO jP jG hg10
       go_wp2_with fail
       go_roundw
       case rel =>
        obtain ⟨i1, i2, i3, i4, i5⟩ := HI.out
        obtain ⟨j1, j2, j3, j4, j5⟩ := HJ.out
        rw [Hst.out] at j5
        obtain ⟨k2, hk1, hk2⟩ := lines_gone (fs := fs) Hbad.out Hq.out Hq2.out i2 j5 j3
        have hm3 := rdM_take q' wEnd
        exact ⟨q'.take wEnd, fs, gs', vf, vg', k2, h10, hX10, hZ10, hO10, hP10, hG10, (show _ ∧ _ from ⟨j1.take _, hk1, by omega, i4, by rw [i5, hk2]⟩)⟩
       case measure =>
        have hm := rdM_less Hbad.out
        have hm2 := HJ.out.2.2.1
        have hm3 := rdM_take q' wEnd
        have e1 := H10.out
        have e2 := hM.out
        omega
      ·have hbad : q'.bad = false := by simpa using hbad
       have Jbad := Lib.hid hbad
       rw [hbad] at c1
       clear hbad
       go_upto_region 8 with fail
       refine jat.out.mono ?_
       rintro e w3 ⟨rfl, hb3⟩
       have jR3 := jR.below hb3
       have jX3 := jX.below hb3 jX.lt
       have jZ3 := jZ.below hb3 jZ.lt
       have jO3 := jO.below RField.fair hb3
       have jP3 := jP.below RInt.fair hb3
       have jG3 := grown_via jG (grown_below hb3 (some g)) (.inl rfl)
       clear jR jX jZ jO jP jG hb3 c1 hl jat
       cases hq : q'.at_ wEnd with
       | true =>
        have Hst : Hid (goneRF k' q' gs' = (gs', q')) := by show _ = _; exact gone_stop k' gs' (by rw [hq]; simp)
        clear hq
        go_wp2_with fail
        refine (htake.out q' wEnd w3 jR3).mono ?_
        rintro e w10 ⟨rfl, h10, hg10⟩
        have hneP9 : vg'.ownBlock ≠ some g := fun e => by have := (jP3.lt e).1; omega
        have hX10 := jX3.grown hg10 (by intro e; injection e with e; omega)
        have hZ10 := jZ3.grown hg10 (by intro e; injection e with e; omega)
        have hO10 := jO3.kept RField.fair hg10 (.inr hneO) (fun _ _ h => h)
        have hP10 := jP3.kept RInt.fair hg10 (.inr hneP9) (fun _ _ h => h)
        have hG10 := grown_via jG3 hg10 (.inl rfl)
        have H10 := Lib.hid h10.m
        clear jX3 jZ3 jO3 jP3 jG3 hg10
        go_wp2_with fail
        go_roundw
        case rel =>
         obtain ⟨i1, i2, i3, i4, i5⟩ := HI.out
         obtain ⟨j1, j2, j3, j4, j5⟩ := HJ.out
         rw [Hst.out] at j5
         obtain ⟨k2, hk1, hk2⟩ := lines_gone (fs := fs) Hbad.out Hq.out Hq2.out i2 j5 j3
         have hm3 := rdM_take q' wEnd
         exact ⟨q'.take wEnd, fs, gs', vf, vg', k2, h10, hX10, hZ10, hO10, hP10, hG10, (show _ ∧ _ from ⟨j1.take _, hk1, by omega, i4, by rw [i5, hk2]⟩)⟩
        case measure =>
         have hm := rdM_less Hbad.out
         have hm2 := HJ.out.2.2.1
         have hm3 := rdM_take q' wEnd
         have e1 := H10.out
         have e2 := hM.out
         omega
       | false =>
        have Jq := Lib.hid hq
        clear hq
        go_upto_region 8 with fail
        have hRd := jR3.keep (Keep.drew _ _)
        have hXd := jX3.drew
        have hZd := jZ3.drew
        have hOd := jO3.drew RField.fair
        have hPd := jP3.drew RInt.fair
        have hGd := grown_drew jG3
        have hS : (fun W' => World.cell? W' ⟨X, 3, none⟩ = some vg') w3.drew := jX3.drew.cell 3
        refine lateP_start (fun W' => World.cell? W' ⟨X, 3, none⟩ = some vg') (fun i => i != 7) (by kernel_rfl) ?_
        clear jR3 jX3 jZ3 jO3 jP3 jG3
        generalize w3.drew = Wd at hRd hXd hZd hOd hPd hGd hS ⊢
        refine ppP 0 ?_
        try simp only [pu]
        refine tkP 1 hS ?_
        try simp only [pu]
        refine ppP 2 ?_
        try simp only [pu]
        refine lateP_one (i := 3) rfl (by kernel_rfl) (fun K hK => ?_)
        go_simp
        refine (hnum.out q' Wd hRd HJ.out.1 hGd).mono ?_
        rintro e w5 ⟨rfl, h5, hg5⟩
        have hneP : vg'.ownBlock ≠ some g := fun e => by have := (hPd.lt e).1; omega
        have hX5 := hXd.grown hg5 (by intro e; injection e with e; omega)
        have hZ5 := hZd.grown hg5 (by intro e; injection e with e; omega)
        have hO5 := hOd.kept RField.fair hg5 (.inr hneO) (fun _ _ h => h)
        have hP5 := hPd.kept RInt.fair hg5 (.inr hneP) (fun _ _ h => h)
        have hG5 := grown_via hGd hg5 (.inl rfl)
        replace hS : (fun W' => World.cell? W' ⟨X, 3, none⟩ = some vg') w5 := hX5.cell 3
        clear hXd hZd hOd hPd hGd hg5 hRd
        refine hK.out _ _ (fun _ _ => hS) ?_
        clear hK K
        try simp only [pu]
        refine lateP_one (i := 4) rfl (by kernel_rfl) (fun K hK => ?_)
        go_simp
        have h7 := h5.keep (Keep.alloc _ w5 (.cells #[.int .i64 q'.number.1] 3))
        have hB7 := Box.new w5 3 [.int .i64 q'.number.1]
        have hX7 := hX5.alloc (.cells #[.int .i64 q'.number.1] 3)
        have hZ7 := hZ5.alloc (.cells #[.int .i64 q'.number.1] 3)
        have hO7 := hO5.alloc RField.fair (.cells #[.int .i64 q'.number.1] 3)
        have hP7 := hP5.alloc RInt.fair (.cells #[.int .i64 q'.number.1] 3)
        have hG7 := grown_alloc hG5 (.cells #[.int .i64 q'.number.1] 3)
        replace hS : (fun W' => World.cell? W' ⟨X, 3, none⟩ = some vg') (w5.alloc (.cells #[.int .i64 q'.number.1] 3)) := hX7.cell 3
        clear hX5 hZ5 hO5 hP5 hG5 h5
        refine hK.out _ _ (fun _ _ => hS) ?_
        clear hK K
        try simp only [pu]
        refine lateP_one (i := 5) rfl (by kernel_rfl) (fun K hK => ?_)
        obtain ⟨A7, c7, hv7, -⟩ := hP7.form
        refine step_append _ rfl (.tmp 38) (.tmp 41) rfl sl_ints2 RInt.fair rfl rfl hP7 (Src.one (es := [.int .i64 q'.number.1]) (y := q'.number.1) rfl (Ones.of_all rfl) rfl hB7.lies) (NoT.lt _) (by have := HJ.out.2.2.2.1; simp; omega) hG7.size ?_
        intro v8 w8 hP8 hg8 hv8
        clear hv8
        obtain ⟨A8, c8, hv8, -⟩ := hP8.form
        subst hv8
        generalize (gs' ++ [q'.number.1]).length = n8 at hP8 ⊢
        have h8 := h7.grown hg8 (fun k e => by have := (hP7.lt e).1; exact ⟨fun hk => by have := HSw.out k hk; omega, by omega⟩)
        have hX8 := hX7.grown hg8 (hX7.ne_own hP7 (by decide))
        have hZ8 := hZ7.grown hg8 (hZ7.ne_own hP7 (by decide))
        have hO8 := hO7.kept RField.fair hg8 (own_ne hO7 hP7 (by decide)) (fun _ _ h => h)
        have hG8 := grown_via hG7 hg8 (.inr (fun k e => (hP7.lt e).1))
        replace hS : (fun W' => World.cell? W' ⟨X, 3, none⟩ = some vg') w8 := hX8.cell 3
        clear hX7 hZ7 hO7 hP7 hG7 hg8 h7 hB7 hv7 hneP
        refine hK.out _ _ (fun _ _ => hS) ?_
        clear hK K
        try simp only [pu]
        refine ppP 6 ?_
        try simp only [pu]
        have f4 := hX8.frozen 3
        have c4 := hX8.cell 3
        have lX := hX8.lt
        have hnX : ¬ (S X ∨ X = g) := fun h => h.elim (fun h => by have := HSw.out X h; omega) (fun h => by omega)
        have h9 := h8.keep (Keep.setCell w8 (a := ⟨X, 3, none⟩) (Value.slice A8 n8 c8) hnX)
        have hO9 := hO8.setCell RField.fair (p := ⟨X, 3, none⟩) (Value.slice A8 n8 c8) (hX8.ne_own hO8 (by decide)) (fun h => h)
        have hP9 := hP8.setCell RInt.fair (p := ⟨X, 3, none⟩) (Value.slice A8 n8 c8) (hX8.ne_own hP8 (by decide)) (fun h => h)
        have hX9 := hX8.set_ 3 (Value.slice A8 n8 c8)
        have hZ9 := hZ8.far (p := ⟨X, 3, none⟩) (show w.heap.size ≠ X by omega) (Value.slice A8 n8 c8)
        have hG9 := grown_setCell hG8 (p := ⟨X, 3, none⟩) (.inr (show w.heap.size ≤ X by omega)) (Value.slice A8 n8 c8)
        clear h8 hO8 hP8 hX8 hZ8 hG8 hnX
        refine lateP_one (i := 7) rfl (by kernel_rfl) (fun K hK => ?_)
        go_simp
        refine hK.out _ _ (fun h => absurd h (by decide)) ?_
        clear hK K
        try simp only [pu]
        refine lateP_done (by kernel_rfl) ?_ _
        clear hS f4 c4 lX
        have H9 := Lib.hid h9.m
        go_wp2_with fail
        go_roundw
        case rel =>
         obtain ⟨i1, i2, i3, i4, i5⟩ := HJ.out
         obtain ⟨k2, hk1, hk2⟩ := gone_step gs' Jbad.out Jq.out i2
         have hm := rdM_number Jbad.out
         exact ⟨q'.number.2, gs' ++ [q'.number.1], Value.slice A8 n8 c8, k2, h9, hX9, hZ9, hO9, hP9, hG9, (show _ ∧ _ from ⟨i1.number, hk1, by omega, by simp; omega, by rw [i5, hk2]⟩)⟩
        case measure =>
         have hm := rdM_number Jbad.out
         have e1 := H9.out
         have e2 := jM.out
         omega
    | false =>
     have Hq2 := Lib.hid hq2
     clear hq2
     have hneO : vf.ownBlock ≠ some g := fun e => by have := (hO4.lt e).1; omega
     have hneP : vg.ownBlock ≠ some g := fun e => by have := (hP4.lt e).1; omega
     obtain ⟨id, hidd⟩ : ∃ x, x = q.number.1 := ⟨_, rfl⟩
     obtain ⟨q1, hq1⟩ : ∃ x, x = q.number.2 := ⟨_, rfl⟩
     obtain ⟨x1, hx1⟩ : ∃ x, x = q1.next.1 := ⟨_, rfl⟩
     obtain ⟨q2, hq2⟩ : ∃ x, x = q1.next.2 := ⟨_, rfl⟩
     obtain ⟨ty, hty⟩ : ∃ x, x = q2.word.1 := ⟨_, rfl⟩
     obtain ⟨q3, hq3⟩ : ∃ x, x = q2.word.2 := ⟨_, rfl⟩
     obtain ⟨nme, hnme⟩ : ∃ x, x = q3.word.1 := ⟨_, rfl⟩
     obtain ⟨q4, hq4⟩ : ∃ x, x = q3.word.2 := ⟨_, rfl⟩
     obtain ⟨ri, hri⟩ : ∃ x, x = idxS rulesL x1 := ⟨_, rfl⟩
     obtain ⟨ki, hki⟩ : ∃ x, x = idxS kindsL ty := ⟨_, rfl⟩
     have Hf : Hid (fieldRF q = (⟨id, nme, if 0 < ki then ⟨#[]⟩ else ty, if 0 < ki then ki else 0, ri⟩, ⟨q4.l, q4.bad || decide (ri < 1)⟩)) := by show _ = _; rw [hri, hki, hq4, hnme, hq3, hty, hq2, hx1, hq1, hidd]; rfl
     have s1 : Hid (Small q1) := by show Small q1; rw [hq1]; exact HI.out.1.number
     have s2 : Hid (Small q2) := by show Small q2; rw [hq2]; exact s1.out.next.1
     have s3 : Hid (Small q3) := by show Small q3; rw [hq3]; exact s2.out.word
     have k1 := Lib.hid (fun W (hW : Rdr S W g q) (hG' : w.grownBy W (some g)) => hnum.out q W hW HI.out.1 hG')
     have k2 := Lib.hid (fun W (hW : Rdr S W g q1) => hnxt.out q1 W hW)
     have k3 := Lib.hid (fun W (hW : Rdr S W g q2) => hwrd.out q2 W hW s2.out)
     have k4 := Lib.hid (fun W (hW : Rdr S W g q3) => hwrd.out q3 W hW s3.out)
     rw [← hidd, ← hq1] at k1
     rw [← hx1, ← hq2] at k2
     rw [← hty, ← hq3] at k3
     rw [← hnme, ← hq4] at k4
     have Hri := Lib.hid hri
     have Hki := Lib.hid hki
     clear hidd hq1 hx1 hq2 hty hq3 hnme hq4 hri hki
     go_upto_region 10 with fail
     refine (k1.out w4 hR4 hG4).mono ?_
     rintro e w5 ⟨rfl, h5, hg5⟩
     have hX5 := hX4.grown hg5 (by intro e; injection e with e; omega)
     have hZ5 := hZ4.grown hg5 (by intro e; injection e with e; omega)
     have hO5 := hO4.kept RField.fair hg5 (.inr hneO) (fun _ _ h => h)
     have hP5 := hP4.kept RInt.fair hg5 (.inr hneP) (fun _ _ h => h)
     have hG5 := grown_via hG4 hg5 (.inl rfl)
     clear hX4 hZ4 hO4 hP4 hG4 hg5
     clear hR4
     go_upto_region 10 with fail
     have h6 := h5.keep (Keep.alloc _ w5 (.cells [.int .i64 id, .string ⟨#[]⟩, .string ⟨#[]⟩, .int .i64 0, .int .i64 0].toArray 44))
     have hF6 := Box.new w5 44 [.int .i64 id, .string ⟨#[]⟩, .string ⟨#[]⟩, .int .i64 0, .int .i64 0]
     have hX6 := hX5.alloc (.cells [.int .i64 id, .string ⟨#[]⟩, .string ⟨#[]⟩, .int .i64 0, .int .i64 0].toArray 44)
     have hZ6 := hZ5.alloc (.cells [.int .i64 id, .string ⟨#[]⟩, .string ⟨#[]⟩, .int .i64 0, .int .i64 0].toArray 44)
     have hO6 := hO5.alloc RField.fair (.cells [.int .i64 id, .string ⟨#[]⟩, .string ⟨#[]⟩, .int .i64 0, .int .i64 0].toArray 44)
     have hP6 := hP5.alloc RInt.fair (.cells [.int .i64 id, .string ⟨#[]⟩, .string ⟨#[]⟩, .int .i64 0, .int .i64 0].toArray 44)
     have hG6 := grown_alloc hG5 (.cells [.int .i64 id, .string ⟨#[]⟩, .string ⟨#[]⟩, .int .i64 0, .int .i64 0].toArray 44)
     have hXF := hX5.lt
     have hnOF : vf.ownBlock ≠ some w5.heap.size := fun e => by have := (hO5.lt e).2; omega
     have hnPF : vg.ownBlock ≠ some w5.heap.size := fun e => by have := (hP5.lt e).2; omega
     clear h5 hX5 hZ5 hO5 hP5 hG5
     generalize w5.heap.size = F at hF6 hXF hnOF hnPF ⊢
     generalize (World.alloc w5 (.cells _ _)) = w6 at h6 hF6 hX6 hZ6 hO6 hP6 hG6 ⊢
     have hnF : ¬ (S F ∨ F = g) := fun h => h.elim (fun h => by have := HSw.out F h; omega) (fun h => by omega)
     have hRd := h6.keep (Keep.drew _ _)
     have hFd := hF6.drew
     have hXd := hX6.drew
     have hZd := hZ6.drew
     have hOd := hO6.drew RField.fair
     have hPd := hP6.drew RInt.fair
     have hGd := grown_drew hG6
     have hS : (fun _ => True) w6.drew := trivial
     refine lateP_start (fun _ => True) (fun i => i != 5) (by kernel_rfl) ?_
     clear h6 hF6 hX6 hZ6 hO6 hP6 hG6
     generalize w6.drew = Wd at hRd hFd hXd hZd hOd hPd hGd hS ⊢
     refine ppP 0 ?_
     try simp only [pu]
     refine ppP 1 ?_
     try simp only [pu]
     refine lateP_one (i := 2) rfl (by kernel_rfl) (fun K hK => ?_)
     go_simp
     refine (k2.out Wd hRd).mono ?_
     rintro e w7 ⟨rfl, h7, hg7⟩
     have hF7 := hFd.grown hg7 (by intro e; injection e with e; omega)
     have hX7 := hXd.grown hg7 (by intro e; injection e with e; omega)
     have hZ7 := hZd.grown hg7 (by intro e; injection e with e; omega)
     have hO7 := hOd.kept RField.fair hg7 (.inr hneO) (fun _ _ h => h)
     have hP7 := hPd.kept RInt.fair hg7 (.inr hneP) (fun _ _ h => h)
     have hG7 := grown_via hGd hg7 (.inl rfl)
     clear hXd hZd hOd hPd hGd hg7
     clear hFd hRd
     replace hS : (fun _ => True) w7 := trivial
     refine hK.out _ _ (fun _ _ => hS) ?_
     clear hK K
     try simp only [pu]
     refine lateP_one (i := 3) rfl (by kernel_rfl) (fun K hK => ?_)
     go_simp
     obtain ⟨ek, hkl⟩ := (hlst.out w7 hG7).1
     have hix := indexS_any (fun _ => True) _ rulesL x1 w7 (row_of_box hkl (by decide))
     rw [← Hri.out] at hix
     refine hix.mono ?_
     rintro e w8 ⟨rfl, rfl⟩
     clear hix hkl
     refine hK.out _ _ (fun _ _ => hS) ?_
     clear hK K
     try simp only [pu]
     refine ppP 4 ?_
     try simp only [pu]
     have e4 := hF7.cell 4
     have u4 := hF7.frozen 4
     have lF := hF7.lt
     have h9 := h7.keep (Keep.setCell _ (a := ⟨F, 4, none⟩) (.int .i64 ri) hnF)
     have hF9 := hF7.set_ 4 (.int .i64 ri)
     have hX9 := hX7.far (p := ⟨F, 4, none⟩) (show X ≠ F by omega) (.int .i64 ri)
     have hZ9 := hZ7.far (p := ⟨F, 4, none⟩) (show w.heap.size ≠ F by omega) (.int .i64 ri)
     have hO9 := hO7.setCell RField.fair (p := ⟨F, 4, none⟩) (.int .i64 ri) hnOF (fun h => h)
     have hP9 := hP7.setCell RInt.fair (p := ⟨F, 4, none⟩) (.int .i64 ri) hnPF (fun h => h)
     have hG9 := grown_setCell hG7 (p := ⟨F, 4, none⟩) (.inr (show w.heap.size ≤ F by omega)) (.int .i64 ri)
     clear h7 hF7 hX7 hZ7 hO7 hP7 hG7
     refine lateP_one (i := 5) rfl (by kernel_rfl) (fun K hK => ?_)
     go_simp
     refine hK.out _ _ (fun h => absurd h (by decide)) ?_
     clear hK K
     try simp only [pu]
     refine lateP_done (by kernel_rfl) ?_ _
     clear hS e4 u4 lF
     generalize (World.setCell _ _ _) = w9 at h9 hF9 hX9 hZ9 hO9 hP9 hG9 ⊢
     go_wp2_with fail
     refine (k3.out w9 h9).mono ?_
     rintro e w10 ⟨rfl, h10, hg10⟩
     have hF10 := hF9.grown hg10 (by intro e; injection e with e; omega)
     have hX10 := hX9.grown hg10 (by intro e; injection e with e; omega)
     have hZ10 := hZ9.grown hg10 (by intro e; injection e with e; omega)
     have hO10 := hO9.kept RField.fair hg10 (.inr hneO) (fun _ _ h => h)
     have hP10 := hP9.kept RInt.fair hg10 (.inr hneP) (fun _ _ h => h)
     have hG10 := grown_via hG9 hg10 (.inl rfl)
     clear hX9 hZ9 hO9 hP9 hG9 hg10
     clear hF9 h9
     go_wp2_with fail
     refine (k4.out w10 h10).mono ?_
     rintro e w11 ⟨rfl, h11, hg11⟩
     have hF11 := hF10.grown hg11 (by intro e; injection e with e; omega)
     have hX11 := hX10.grown hg11 (by intro e; injection e with e; omega)
     have hZ11 := hZ10.grown hg11 (by intro e; injection e with e; omega)
     have hO11 := hO10.kept RField.fair hg11 (.inr hneO) (fun _ _ h => h)
     have hP11 := hP10.kept RInt.fair hg11 (.inr hneP) (fun _ _ h => h)
     have hG11 := grown_via hG10 hg11 (.inl rfl)
     clear hX10 hZ10 hO10 hP10 hG10 hg11
     clear hF10 h10
     have e2 := hF11.cell 2
     have e1 := hF11.cell 1
     have u2 := hF11.frozen 2
     have u1 := hF11.frozen 1
     have lF := hF11.lt
     have h111 := h11.keep (Keep.setCell _ (a := ⟨F, 2, none⟩) (.string ty) hnF)
     have hF111 := hF11.set_ 2 (.string ty)
     have hX111 := hX11.far (p := ⟨F, 2, none⟩) (show X ≠ F by omega) (.string ty)
     have hZ111 := hZ11.far (p := ⟨F, 2, none⟩) (show w.heap.size ≠ F by omega) (.string ty)
     have hO111 := hO11.setCell RField.fair (p := ⟨F, 2, none⟩) (.string ty) hnOF (fun h => h)
     have hP111 := hP11.setCell RInt.fair (p := ⟨F, 2, none⟩) (.string ty) hnPF (fun h => h)
     have hG111 := grown_setCell hG11 (p := ⟨F, 2, none⟩) (.inr (show w.heap.size ≤ F by omega)) (.string ty)
     clear h11 hF11 hX11 hZ11 hO11 hP11 hG11
     have h12 := h111.keep (Keep.setCell _ (a := ⟨F, 1, none⟩) (.string nme) hnF)
     have hF12 := hF111.set_ 1 (.string nme)
     have hX12 := hX111.far (p := ⟨F, 1, none⟩) (show X ≠ F by omega) (.string nme)
     have hZ12 := hZ111.far (p := ⟨F, 1, none⟩) (show w.heap.size ≠ F by omega) (.string nme)
     have hO12 := hO111.setCell RField.fair (p := ⟨F, 1, none⟩) (.string nme) hnOF (fun h => h)
     have hP12 := hP111.setCell RInt.fair (p := ⟨F, 1, none⟩) (.string nme) hnPF (fun h => h)
     have hG12 := grown_setCell hG111 (p := ⟨F, 1, none⟩) (.inr (show w.heap.size ≤ F by omega)) (.string nme)
     clear h111 hF111 hX111 hZ111 hO111 hP111 hG111
     go_upto_region 12 with fail
     clear e2 e1 u2 u1 lF
     generalize (World.setCell (World.setCell w11 _ _) _ _) = w12 at h12 hF12 hX12 hZ12 hO12 hP12 hG12 ⊢
     obtain ⟨uv, hbx, -⟩ := Lib.hid h12 |>.out
     have gc1 : w12.cell? ⟨g, 1, none⟩ = some (.bool q4.bad) := hbx.cell 1
     have gf1 := hbx.frozen 1
     have gl1 := hbx.lt
     have gF4 : w12.cell? ⟨F, 4, none⟩ = some (.int .i64 ri) := hF12.cell 4
     have lF := hF12.lt
     clear hbx
     by_cases hb4 : q4.bad = true
     ·--[F1
      rw [hb4] at gc1
      go_upto_region 13 with fail
      obtain ⟨bb, hbb⟩ : ∃ b : Bool, b = true := ⟨_, rfl⟩
      have Hf1 : Hid (fieldRF q = (⟨id, nme, if 0 < ki then ⟨#[]⟩ else ty, if 0 < ki then ki else 0, ri⟩, ⟨q4.l, bb⟩)) := by show _ = _; rw [Hf.out, hbb, hb4]; rfl
      have h13 := h12.set_ HS.out true
      have hF13 := hF12.far (p := ⟨g, 1, none⟩) (show F ≠ g by omega) (.bool true)
      have hX13 := hX12.far (p := ⟨g, 1, none⟩) (show X ≠ g by omega) (.bool true)
      have hZ13 := hZ12.far (p := ⟨g, 1, none⟩) (show w.heap.size ≠ g by omega) (.bool true)
      have hO13 := hO12.setCell RField.fair (p := ⟨g, 1, none⟩) (.bool true) hneO (fun h => h)
      have hP13 := hP12.setCell RInt.fair (p := ⟨g, 1, none⟩) (.bool true) hneP (fun h => h)
      have hG13 := grown_setCell hG12 (p := ⟨g, 1, none⟩) (.inl rfl) (.bool true)
      clear h12 hF12 hX12 hZ12 hO12 hP12 hG12 hb4 gc1 gf1 gl1 gF4 lF
      generalize (World.setCell w12 _ _) = w13 at h13 hF13 hX13 hZ13 hO13 hP13 hG13 ⊢
      replace h13 : Rdr S w13 g ⟨q4.l, bb⟩ := by rw [hbb]; exact h13
      clear hbb
      have hRd := h13.keep (Keep.drew _ _)
      have hFd := hF13.drew
      have hXd := hX13.drew
      have hZd := hZ13.drew
      have hOd := hO13.drew RField.fair
      have hPd := hP13.drew RInt.fair
      have hGd := grown_drew hG13
      have hS : (fun W' => World.cell? W' ⟨F, 2, none⟩ = some (.string ty)) w13.drew := hFd.cell 2
      refine lateP_start (fun W' => World.cell? W' ⟨F, 2, none⟩ = some (.string ty)) (fun _ => true) (by kernel_rfl) ?_
      clear h13 hF13 hX13 hZ13 hO13 hP13 hG13
      generalize w13.drew = w14 at hRd hFd hXd hZd hOd hPd hGd hS ⊢
      refine ppP 0 ?_
      try simp only [pu]
      refine ppP 1 ?_
      try simp only [pu]
      refine tkP 2 hS ?_
      try simp only [pu]
      refine lateP_one (i := 3) rfl (by kernel_rfl) (fun K hK => ?_)
      go_simp
      obtain ⟨ek, hkl⟩ := (hlst.out w14 hGd).2
      have hix := indexS_any (fun _ => True) _ kindsL ty w14 (row_of_box hkl (by decide))
      rw [← Hki.out] at hix
      refine hix.mono ?_
      rintro e w15 ⟨rfl, rfl⟩
      clear hix hkl
      refine hK.out _ _ (fun _ _ => hS) ?_
      clear hK K
      try simp only [pu]
      refine lateP_one (i := 4) rfl (by kernel_rfl) (fun K hK => ?_)
      go_simp
      refine hK.out _ _ (fun _ _ => hS) ?_
      clear hK K
      try simp only [pu]
      refine lateP_done (by kernel_rfl) ?_ _
      clear hS
      by_cases hk0 : 0 < ki
      ·have Hf2 : Hid (fieldRF q = (⟨id, nme, ⟨#[]⟩, ki, ri⟩, ⟨q4.l, bb⟩)) := by show _ = _; rw [Hf1.out, if_pos hk0, if_pos hk0]
       have h15 := hRd
       have hF15 := hFd
       have hX15 := hXd
       have hZ15 := hZd
       have hO15 := hOd
       have hP15 := hPd
       have hG15 := hGd
       clear hRd hFd hXd hZd hOd hPd hGd
       have e3 := hF15.cell 3
       have e2 := hF15.cell 2
       have u3 := hF15.frozen 3
       have u2 := hF15.frozen 2
       have lF := hF15.lt
       have h151 := h15.keep (Keep.setCell _ (a := ⟨F, 3, none⟩) (.int .i64 ki) hnF)
       have hF151 := hF15.set_ 3 (.int .i64 ki)
       have hX151 := hX15.far (p := ⟨F, 3, none⟩) (show X ≠ F by omega) (.int .i64 ki)
       have hZ151 := hZ15.far (p := ⟨F, 3, none⟩) (show w.heap.size ≠ F by omega) (.int .i64 ki)
       have hO151 := hO15.setCell RField.fair (p := ⟨F, 3, none⟩) (.int .i64 ki) hnOF (fun h => h)
       have hP151 := hP15.setCell RInt.fair (p := ⟨F, 3, none⟩) (.int .i64 ki) hnPF (fun h => h)
       have hG151 := grown_setCell hG15 (p := ⟨F, 3, none⟩) (.inr (show w.heap.size ≤ F by omega)) (.int .i64 ki)
       clear h15 hF15 hX15 hZ15 hO15 hP15 hG15
       have h16 := h151.keep (Keep.setCell _ (a := ⟨F, 2, none⟩) (.string ⟨#[]⟩) hnF)
       have hF16 := hF151.set_ 2 (.string ⟨#[]⟩)
       have hX16 := hX151.far (p := ⟨F, 2, none⟩) (show X ≠ F by omega) (.string ⟨#[]⟩)
       have hZ16 := hZ151.far (p := ⟨F, 2, none⟩) (show w.heap.size ≠ F by omega) (.string ⟨#[]⟩)
       have hO16 := hO151.setCell RField.fair (p := ⟨F, 2, none⟩) (.string ⟨#[]⟩) hnOF (fun h => h)
       have hP16 := hP151.setCell RInt.fair (p := ⟨F, 2, none⟩) (.string ⟨#[]⟩) hnPF (fun h => h)
       have hG16 := grown_setCell hG151 (p := ⟨F, 2, none⟩) (.inr (show w.heap.size ≤ F by omega)) (.string ⟨#[]⟩)
       clear h151 hF151 hX151 hZ151 hO151 hP151 hG151
       go_upto_region 16 with fail
       clear e3 e2 u3 u2 lF hk0
       generalize (World.setCell (World.setCell w15 _ _) _ _) = w16 at h16 hF16 hX16 hZ16 hO16 hP16 hG16 ⊢
       obtain ⟨A6, p6, hv6, -⟩ := hO16.form
       have hOl := hO16
       subst hv6
       obtain ⟨d0, d1, d2, d3, d4⟩ := hF16.five
       have x2 := hX16.cell 2
       simp only [List.getElem?_cons_zero, List.getElem?_cons_succ] at x2
       have lF := hF16.lt
       have lX := hX16.lt
       have fX := hX16.frozen 2
       have h17 := h16.keep (Keep.alloc _ w16 (.cells #[.int .i64 id, .string nme, .string ⟨#[]⟩, .int .i64 ki, .int .i64 ri] 44))
       have hB17 := Box.new w16 44 [.int .i64 id, .string nme, .string ⟨#[]⟩, .int .i64 ki, .int .i64 ri]
       have hX17 := hX16.alloc (.cells #[.int .i64 id, .string nme, .string ⟨#[]⟩, .int .i64 ki, .int .i64 ri] 44)
       have hZ17 := hZ16.alloc (.cells #[.int .i64 id, .string nme, .string ⟨#[]⟩, .int .i64 ki, .int .i64 ri] 44)
       have hO17 := hO16.alloc RField.fair (.cells #[.int .i64 id, .string nme, .string ⟨#[]⟩, .int .i64 ki, .int .i64 ri] 44)
       have hP17 := hP16.alloc RInt.fair (.cells #[.int .i64 id, .string nme, .string ⟨#[]⟩, .int .i64 ki, .int .i64 ri] 44)
       have hG17 := grown_alloc hG16 (.cells #[.int .i64 id, .string nme, .string ⟨#[]⟩, .int .i64 ki, .int .i64 ri] 44)
       clear h16 hF16 hX16 hZ16 hO16 hP16 hG16 hOl
       go_wp2_with (at_builtin; go_must (refine wl_append _ rfl (.tmp 80) (.tmp 82) rfl sl_fields2 RField.fair rfl rfl hO17 (Src.one (es := [.int .i64 id, .string nme, .string ⟨#[]⟩, .int .i64 ki, .int .i64 ri]) (y := FieldD.mk id nme ⟨#[]⟩ ki ri) rfl (Ones.of_all rfl) rfl hB17.lies) (NoT.lt _) ?_ ?_ ?_))
       ·have := HI.out.2.2.1; (try simp); omega
       ·exact hG17.size
       intro v8 w18 hO18 hg18 hv8
       clear hv8
       obtain ⟨A8, c8, hv8, -⟩ := hO18.form
       subst hv8
       generalize (fs ++ [FieldD.mk id nme ⟨#[]⟩ ki ri]).length = n8 at hO18 ⊢
       have h18 := h17.grown hg18 (fun k e => by have := (hO17.lt e).1; exact ⟨fun hk => by have := HSw.out k hk; omega, by omega⟩)
       have hX18 := hX17.grown hg18 (hX17.ne_own hO17 (by decide))
       have hZ18 := hZ17.grown hg18 (hZ17.ne_own hO17 (by decide))
       have hP18 := hP17.kept RInt.fair hg18 (own_ne hP17 hO17 (by decide)) (fun _ _ h => h)
       have hG18 := grown_via hG17 hg18 (.inr (fun k e => (hO17.lt e).1))
       have x2 := hX18.cell 2
       have lX := hX18.lt
       have fX := hX18.frozen 2
       have hnX : ¬ (S X ∨ X = g) := fun h => h.elim (fun h => by have := HSw.out X h; omega) (fun h => by omega)
       have h19 := h18.keep (Keep.setCell w18 (a := ⟨X, 2, none⟩) (Value.slice A8 n8 c8) hnX)
       have hO19 := hO18.setCell RField.fair (p := ⟨X, 2, none⟩) (Value.slice A8 n8 c8) (hX18.ne_own hO18 (by decide)) (fun h => h)
       have hP19 := hP18.setCell RInt.fair (p := ⟨X, 2, none⟩) (Value.slice A8 n8 c8) (hX18.ne_own hP18 (by decide)) (fun h => h)
       have hX19 := hX18.set_ 2 (Value.slice A8 n8 c8)
       have hZ19 := hZ18.far (p := ⟨X, 2, none⟩) (show w.heap.size ≠ X by omega) (Value.slice A8 n8 c8)
       have hG19 := grown_setCell hG18 (p := ⟨X, 2, none⟩) (.inr (show w.heap.size ≤ X by omega)) (Value.slice A8 n8 c8)
       clear h17 hX17 hZ17 hO17 hP17 hG17 hg18 h18 hX18 hZ18 hO18 hP18 hG18 hnX hB17
       go_wp2_with fail
       refine (htake.out _ wEnd _ h19).mono ?_
       rintro e w20 ⟨rfl, h20, hg20⟩
       have hneO9 : (Value.slice A8 n8 c8).ownBlock ≠ some g := fun e => by have := (hO19.lt e).1; omega
       have hX20 := hX19.grown hg20 (by intro e; injection e with e; omega)
       have hZ20 := hZ19.grown hg20 (by intro e; injection e with e; omega)
       have hO20 := hO19.kept RField.fair hg20 (.inr hneO9) (fun _ _ h => h)
       have hP20 := hP19.kept RInt.fair hg20 (.inr hneP) (fun _ _ h => h)
       have hG20 := grown_via hG19 hg20 (.inl rfl)
       have H20 := Lib.hid h20.m
       clear h19 hX19 hZ19 hO19 hP19 hG19 hg20 x2 lX fX d0 d1 d2 d3 d4 lF
       go_wp2_with fail
       go_roundw
       case rel =>
        obtain ⟨i1, i2, i3, i4, i5⟩ := HI.out
        obtain ⟨k2, hk1, hk2⟩ := lines_field (fs := fs) (gs := gs) Hbad.out Hq.out Hq2.out i2
        have hm := rdM_field Hbad.out
        have hs := i1.field
        have hqf := field_q i1
        rw [Hf2.out] at hk1 hk2 hm hs hqf
        have hm3 := rdM_take (⟨q4.l, bb⟩ : Rd) wEnd
        refine ⟨(⟨q4.l, bb⟩ : Rd).take wEnd, fs ++ [FieldD.mk id nme ⟨#[]⟩ ki ri], gs, Value.slice A8 n8 c8, vg, k2, h20, hX20, hZ20, hO20, hP20, hG20, (show _ ∧ _ from ⟨hs.take _, hk1, by dsimp only at hm; simp; omega, ?_, by rw [i5, hk2]⟩)⟩
        intro x hx
        rcases List.mem_append.1 hx with hx | hx
        ·exact i4 x hx
        ·rw [List.mem_singleton.1 hx]; exact hqf
       case measure =>
        have hm := rdM_field Hbad.out
        rw [Hf2.out] at hm
        have hm3 := rdM_take (⟨q4.l, bb⟩ : Rd) wEnd
        have e1 := H20.out
        have e2 := hM.out
        dsimp only at hm
        omega
      ·have Hf2 : Hid (fieldRF q = (⟨id, nme, ty, 0, ri⟩, ⟨q4.l, bb⟩)) := by show _ = _; rw [Hf1.out, if_neg hk0, if_neg hk0]
       have hk1 : ki ≤ 0 := by omega
       clear hk0
       obtain ⟨w16, hw16⟩ : ∃ x, x = w15 := ⟨_, rfl⟩
       subst hw16
       have h16 := hRd
       have hF16 := hFd
       have hX16 := hXd
       have hZ16 := hZd
       have hO16 := hOd
       have hP16 := hPd
       have hG16 := hGd
       clear hRd hFd hXd hZd hOd hPd hGd
       go_upto_region 16 with fail
       clear hk1
       obtain ⟨A6, p6, hv6, -⟩ := hO16.form
       have hOl := hO16
       subst hv6
       obtain ⟨d0, d1, d2, d3, d4⟩ := hF16.five
       have x2 := hX16.cell 2
       simp only [List.getElem?_cons_zero, List.getElem?_cons_succ] at x2
       have lF := hF16.lt
       have lX := hX16.lt
       have fX := hX16.frozen 2
       have h17 := h16.keep (Keep.alloc _ w16 (.cells #[.int .i64 id, .string nme, .string ty, .int .i64 0, .int .i64 ri] 44))
       have hB17 := Box.new w16 44 [.int .i64 id, .string nme, .string ty, .int .i64 0, .int .i64 ri]
       have hX17 := hX16.alloc (.cells #[.int .i64 id, .string nme, .string ty, .int .i64 0, .int .i64 ri] 44)
       have hZ17 := hZ16.alloc (.cells #[.int .i64 id, .string nme, .string ty, .int .i64 0, .int .i64 ri] 44)
       have hO17 := hO16.alloc RField.fair (.cells #[.int .i64 id, .string nme, .string ty, .int .i64 0, .int .i64 ri] 44)
       have hP17 := hP16.alloc RInt.fair (.cells #[.int .i64 id, .string nme, .string ty, .int .i64 0, .int .i64 ri] 44)
       have hG17 := grown_alloc hG16 (.cells #[.int .i64 id, .string nme, .string ty, .int .i64 0, .int .i64 ri] 44)
       clear h16 hF16 hX16 hZ16 hO16 hP16 hG16 hOl
       go_wp2_with (at_builtin; go_must (refine wl_append _ rfl (.tmp 80) (.tmp 82) rfl sl_fields2 RField.fair rfl rfl hO17 (Src.one (es := [.int .i64 id, .string nme, .string ty, .int .i64 0, .int .i64 ri]) (y := FieldD.mk id nme ty 0 ri) rfl (Ones.of_all rfl) rfl hB17.lies) (NoT.lt _) ?_ ?_ ?_))
       ·have := HI.out.2.2.1; (try simp); omega
       ·exact hG17.size
       intro v8 w18 hO18 hg18 hv8
       clear hv8
       obtain ⟨A8, c8, hv8, -⟩ := hO18.form
       subst hv8
       generalize (fs ++ [FieldD.mk id nme ty 0 ri]).length = n8 at hO18 ⊢
       have h18 := h17.grown hg18 (fun k e => by have := (hO17.lt e).1; exact ⟨fun hk => by have := HSw.out k hk; omega, by omega⟩)
       have hX18 := hX17.grown hg18 (hX17.ne_own hO17 (by decide))
       have hZ18 := hZ17.grown hg18 (hZ17.ne_own hO17 (by decide))
       have hP18 := hP17.kept RInt.fair hg18 (own_ne hP17 hO17 (by decide)) (fun _ _ h => h)
       have hG18 := grown_via hG17 hg18 (.inr (fun k e => (hO17.lt e).1))
       have x2 := hX18.cell 2
       have lX := hX18.lt
       have fX := hX18.frozen 2
       have hnX : ¬ (S X ∨ X = g) := fun h => h.elim (fun h => by have := HSw.out X h; omega) (fun h => by omega)
       have h19 := h18.keep (Keep.setCell w18 (a := ⟨X, 2, none⟩) (Value.slice A8 n8 c8) hnX)
       have hO19 := hO18.setCell RField.fair (p := ⟨X, 2, none⟩) (Value.slice A8 n8 c8) (hX18.ne_own hO18 (by decide)) (fun h => h)
       have hP19 := hP18.setCell RInt.fair (p := ⟨X, 2, none⟩) (Value.slice A8 n8 c8) (hX18.ne_own hP18 (by decide)) (fun h => h)
       have hX19 := hX18.set_ 2 (Value.slice A8 n8 c8)
       have hZ19 := hZ18.far (p := ⟨X, 2, none⟩) (show w.heap.size ≠ X by omega) (Value.slice A8 n8 c8)
       have hG19 := grown_setCell hG18 (p := ⟨X, 2, none⟩) (.inr (show w.heap.size ≤ X by omega)) (Value.slice A8 n8 c8)
       clear h17 hX17 hZ17 hO17 hP17 hG17 hg18 h18 hX18 hZ18 hO18 hP18 hG18 hnX hB17
       go_wp2_with fail
       refine (htake.out _ wEnd _ h19).mono ?_
       rintro e w20 ⟨rfl, h20, hg20⟩
       have hneO9 : (Value.slice A8 n8 c8).ownBlock ≠ some g := fun e => by have := (hO19.lt e).1; omega
       have hX20 := hX19.grown hg20 (by intro e; injection e with e; omega)
       have hZ20 := hZ19.grown hg20 (by intro e; injection e with e; omega)
       have hO20 := hO19.kept RField.fair hg20 (.inr hneO9) (fun _ _ h => h)
       have hP20 := hP19.kept RInt.fair hg20 (.inr hneP) (fun _ _ h => h)
       have hG20 := grown_via hG19 hg20 (.inl rfl)
       have H20 := Lib.hid h20.m
       clear h19 hX19 hZ19 hO19 hP19 hG19 hg20 x2 lX fX d0 d1 d2 d3 d4 lF
       go_wp2_with fail
       go_roundw
       case rel =>
        obtain ⟨i1, i2, i3, i4, i5⟩ := HI.out
        obtain ⟨k2, hk1, hk2⟩ := lines_field (fs := fs) (gs := gs) Hbad.out Hq.out Hq2.out i2
        have hm := rdM_field Hbad.out
        have hs := i1.field
        have hqf := field_q i1
        rw [Hf2.out] at hk1 hk2 hm hs hqf
        have hm3 := rdM_take (⟨q4.l, bb⟩ : Rd) wEnd
        refine ⟨(⟨q4.l, bb⟩ : Rd).take wEnd, fs ++ [FieldD.mk id nme ty 0 ri], gs, Value.slice A8 n8 c8, vg, k2, h20, hX20, hZ20, hO20, hP20, hG20, (show _ ∧ _ from ⟨hs.take _, hk1, by dsimp only at hm; simp; omega, ?_, by rw [i5, hk2]⟩)⟩
        intro x hx
        rcases List.mem_append.1 hx with hx | hx
        ·exact i4 x hx
        ·rw [List.mem_singleton.1 hx]; exact hqf
       case measure =>
        have hm := rdM_field Hbad.out
        rw [Hf2.out] at hm
        have hm3 := rdM_take (⟨q4.l, bb⟩ : Rd) wEnd
        have e1 := H20.out
        have e2 := hM.out
        dsimp only at hm
        omega
     ·--[F2
      have hb4 : q4.bad = false := by simpa using hb4
      rw [hb4] at gc1
      go_upto_region 13 with fail
      obtain ⟨bb, hbb⟩ : ∃ b : Bool, b = (decide (ri < 1)) := ⟨_, rfl⟩
      have Hf1 : Hid (fieldRF q = (⟨id, nme, if 0 < ki then ⟨#[]⟩ else ty, if 0 < ki then ki else 0, ri⟩, ⟨q4.l, bb⟩)) := by show _ = _; rw [Hf.out, hbb, hb4]; rfl
      have h13 := h12.set_ HS.out (decide (ri < 1))
      have hF13 := hF12.far (p := ⟨g, 1, none⟩) (show F ≠ g by omega) (.bool (decide (ri < 1)))
      have hX13 := hX12.far (p := ⟨g, 1, none⟩) (show X ≠ g by omega) (.bool (decide (ri < 1)))
      have hZ13 := hZ12.far (p := ⟨g, 1, none⟩) (show w.heap.size ≠ g by omega) (.bool (decide (ri < 1)))
      have hO13 := hO12.setCell RField.fair (p := ⟨g, 1, none⟩) (.bool (decide (ri < 1))) hneO (fun h => h)
      have hP13 := hP12.setCell RInt.fair (p := ⟨g, 1, none⟩) (.bool (decide (ri < 1))) hneP (fun h => h)
      have hG13 := grown_setCell hG12 (p := ⟨g, 1, none⟩) (.inl rfl) (.bool (decide (ri < 1)))
      clear h12 hF12 hX12 hZ12 hO12 hP12 hG12 hb4 gc1 gf1 gl1 gF4 lF
      generalize (World.setCell w12 _ _) = w13 at h13 hF13 hX13 hZ13 hO13 hP13 hG13 ⊢
      replace h13 : Rdr S w13 g ⟨q4.l, bb⟩ := by rw [hbb]; exact h13
      clear hbb
      have hRd := h13.keep (Keep.drew _ _)
      have hFd := hF13.drew
      have hXd := hX13.drew
      have hZd := hZ13.drew
      have hOd := hO13.drew RField.fair
      have hPd := hP13.drew RInt.fair
      have hGd := grown_drew hG13
      have hS : (fun W' => World.cell? W' ⟨F, 2, none⟩ = some (.string ty)) w13.drew := hFd.cell 2
      refine lateP_start (fun W' => World.cell? W' ⟨F, 2, none⟩ = some (.string ty)) (fun _ => true) (by kernel_rfl) ?_
      clear h13 hF13 hX13 hZ13 hO13 hP13 hG13
      generalize w13.drew = w14 at hRd hFd hXd hZd hOd hPd hGd hS ⊢
      refine ppP 0 ?_
      try simp only [pu]
      refine ppP 1 ?_
      try simp only [pu]
      refine tkP 2 hS ?_
      try simp only [pu]
      refine lateP_one (i := 3) rfl (by kernel_rfl) (fun K hK => ?_)
      go_simp
      obtain ⟨ek, hkl⟩ := (hlst.out w14 hGd).2
      have hix := indexS_any (fun _ => True) _ kindsL ty w14 (row_of_box hkl (by decide))
      rw [← Hki.out] at hix
      refine hix.mono ?_
      rintro e w15 ⟨rfl, rfl⟩
      clear hix hkl
      refine hK.out _ _ (fun _ _ => hS) ?_
      clear hK K
      try simp only [pu]
      refine lateP_one (i := 4) rfl (by kernel_rfl) (fun K hK => ?_)
      go_simp
      refine hK.out _ _ (fun _ _ => hS) ?_
      clear hK K
      try simp only [pu]
      refine lateP_done (by kernel_rfl) ?_ _
      clear hS
      by_cases hk0 : 0 < ki
      ·have Hf2 : Hid (fieldRF q = (⟨id, nme, ⟨#[]⟩, ki, ri⟩, ⟨q4.l, bb⟩)) := by show _ = _; rw [Hf1.out, if_pos hk0, if_pos hk0]
       have h15 := hRd
       have hF15 := hFd
       have hX15 := hXd
       have hZ15 := hZd
       have hO15 := hOd
       have hP15 := hPd
       have hG15 := hGd
       clear hRd hFd hXd hZd hOd hPd hGd
       have e3 := hF15.cell 3
       have e2 := hF15.cell 2
       have u3 := hF15.frozen 3
       have u2 := hF15.frozen 2
       have lF := hF15.lt
       have h151 := h15.keep (Keep.setCell _ (a := ⟨F, 3, none⟩) (.int .i64 ki) hnF)
       have hF151 := hF15.set_ 3 (.int .i64 ki)
       have hX151 := hX15.far (p := ⟨F, 3, none⟩) (show X ≠ F by omega) (.int .i64 ki)
       have hZ151 := hZ15.far (p := ⟨F, 3, none⟩) (show w.heap.size ≠ F by omega) (.int .i64 ki)
       have hO151 := hO15.setCell RField.fair (p := ⟨F, 3, none⟩) (.int .i64 ki) hnOF (fun h => h)
       have hP151 := hP15.setCell RInt.fair (p := ⟨F, 3, none⟩) (.int .i64 ki) hnPF (fun h => h)
       have hG151 := grown_setCell hG15 (p := ⟨F, 3, none⟩) (.inr (show w.heap.size ≤ F by omega)) (.int .i64 ki)
       clear h15 hF15 hX15 hZ15 hO15 hP15 hG15
       have h16 := h151.keep (Keep.setCell _ (a := ⟨F, 2, none⟩) (.string ⟨#[]⟩) hnF)
       have hF16 := hF151.set_ 2 (.string ⟨#[]⟩)
       have hX16 := hX151.far (p := ⟨F, 2, none⟩) (show X ≠ F by omega) (.string ⟨#[]⟩)
       have hZ16 := hZ151.far (p := ⟨F, 2, none⟩) (show w.heap.size ≠ F by omega) (.string ⟨#[]⟩)
       have hO16 := hO151.setCell RField.fair (p := ⟨F, 2, none⟩) (.string ⟨#[]⟩) hnOF (fun h => h)
       have hP16 := hP151.setCell RInt.fair (p := ⟨F, 2, none⟩) (.string ⟨#[]⟩) hnPF (fun h => h)
       have hG16 := grown_setCell hG151 (p := ⟨F, 2, none⟩) (.inr (show w.heap.size ≤ F by omega)) (.string ⟨#[]⟩)
       clear h151 hF151 hX151 hZ151 hO151 hP151 hG151
       go_upto_region 16 with fail
       clear e3 e2 u3 u2 lF hk0
       generalize (World.setCell (World.setCell w15 _ _) _ _) = w16 at h16 hF16 hX16 hZ16 hO16 hP16 hG16 ⊢
       obtain ⟨A6, p6, hv6, -⟩ := hO16.form
       have hOl := hO16
       subst hv6
       obtain ⟨d0, d1, d2, d3, d4⟩ := hF16.five
       have x2 := hX16.cell 2
       simp only [List.getElem?_cons_zero, List.getElem?_cons_succ] at x2
       have lF := hF16.lt
       have lX := hX16.lt
       have fX := hX16.frozen 2
       have h17 := h16.keep (Keep.alloc _ w16 (.cells #[.int .i64 id, .string nme, .string ⟨#[]⟩, .int .i64 ki, .int .i64 ri] 44))
       have hB17 := Box.new w16 44 [.int .i64 id, .string nme, .string ⟨#[]⟩, .int .i64 ki, .int .i64 ri]
       have hX17 := hX16.alloc (.cells #[.int .i64 id, .string nme, .string ⟨#[]⟩, .int .i64 ki, .int .i64 ri] 44)
       have hZ17 := hZ16.alloc (.cells #[.int .i64 id, .string nme, .string ⟨#[]⟩, .int .i64 ki, .int .i64 ri] 44)
       have hO17 := hO16.alloc RField.fair (.cells #[.int .i64 id, .string nme, .string ⟨#[]⟩, .int .i64 ki, .int .i64 ri] 44)
       have hP17 := hP16.alloc RInt.fair (.cells #[.int .i64 id, .string nme, .string ⟨#[]⟩, .int .i64 ki, .int .i64 ri] 44)
       have hG17 := grown_alloc hG16 (.cells #[.int .i64 id, .string nme, .string ⟨#[]⟩, .int .i64 ki, .int .i64 ri] 44)
       clear h16 hF16 hX16 hZ16 hO16 hP16 hG16 hOl
       go_wp2_with (at_builtin; go_must (refine wl_append _ rfl (.tmp 80) (.tmp 82) rfl sl_fields2 RField.fair rfl rfl hO17 (Src.one (es := [.int .i64 id, .string nme, .string ⟨#[]⟩, .int .i64 ki, .int .i64 ri]) (y := FieldD.mk id nme ⟨#[]⟩ ki ri) rfl (Ones.of_all rfl) rfl hB17.lies) (NoT.lt _) ?_ ?_ ?_))
       ·have := HI.out.2.2.1; (try simp); omega
       ·exact hG17.size
       intro v8 w18 hO18 hg18 hv8
       clear hv8
       obtain ⟨A8, c8, hv8, -⟩ := hO18.form
       subst hv8
       generalize (fs ++ [FieldD.mk id nme ⟨#[]⟩ ki ri]).length = n8 at hO18 ⊢
       have h18 := h17.grown hg18 (fun k e => by have := (hO17.lt e).1; exact ⟨fun hk => by have := HSw.out k hk; omega, by omega⟩)
       have hX18 := hX17.grown hg18 (hX17.ne_own hO17 (by decide))
       have hZ18 := hZ17.grown hg18 (hZ17.ne_own hO17 (by decide))
       have hP18 := hP17.kept RInt.fair hg18 (own_ne hP17 hO17 (by decide)) (fun _ _ h => h)
       have hG18 := grown_via hG17 hg18 (.inr (fun k e => (hO17.lt e).1))
       have x2 := hX18.cell 2
       have lX := hX18.lt
       have fX := hX18.frozen 2
       have hnX : ¬ (S X ∨ X = g) := fun h => h.elim (fun h => by have := HSw.out X h; omega) (fun h => by omega)
       have h19 := h18.keep (Keep.setCell w18 (a := ⟨X, 2, none⟩) (Value.slice A8 n8 c8) hnX)
       have hO19 := hO18.setCell RField.fair (p := ⟨X, 2, none⟩) (Value.slice A8 n8 c8) (hX18.ne_own hO18 (by decide)) (fun h => h)
       have hP19 := hP18.setCell RInt.fair (p := ⟨X, 2, none⟩) (Value.slice A8 n8 c8) (hX18.ne_own hP18 (by decide)) (fun h => h)
       have hX19 := hX18.set_ 2 (Value.slice A8 n8 c8)
       have hZ19 := hZ18.far (p := ⟨X, 2, none⟩) (show w.heap.size ≠ X by omega) (Value.slice A8 n8 c8)
       have hG19 := grown_setCell hG18 (p := ⟨X, 2, none⟩) (.inr (show w.heap.size ≤ X by omega)) (Value.slice A8 n8 c8)
       clear h17 hX17 hZ17 hO17 hP17 hG17 hg18 h18 hX18 hZ18 hO18 hP18 hG18 hnX hB17
       go_wp2_with fail
       refine (htake.out _ wEnd _ h19).mono ?_
       rintro e w20 ⟨rfl, h20, hg20⟩
       have hneO9 : (Value.slice A8 n8 c8).ownBlock ≠ some g := fun e => by have := (hO19.lt e).1; omega
       have hX20 := hX19.grown hg20 (by intro e; injection e with e; omega)
       have hZ20 := hZ19.grown hg20 (by intro e; injection e with e; omega)
       have hO20 := hO19.kept RField.fair hg20 (.inr hneO9) (fun _ _ h => h)
       have hP20 := hP19.kept RInt.fair hg20 (.inr hneP) (fun _ _ h => h)
       have hG20 := grown_via hG19 hg20 (.inl rfl)
       have H20 := Lib.hid h20.m
       clear h19 hX19 hZ19 hO19 hP19 hG19 hg20 x2 lX fX d0 d1 d2 d3 d4 lF
       go_wp2_with fail
       go_roundw
       case rel =>
        obtain ⟨i1, i2, i3, i4, i5⟩ := HI.out
        obtain ⟨k2, hk1, hk2⟩ := lines_field (fs := fs) (gs := gs) Hbad.out Hq.out Hq2.out i2
        have hm := rdM_field Hbad.out
        have hs := i1.field
        have hqf := field_q i1
        rw [Hf2.out] at hk1 hk2 hm hs hqf
        have hm3 := rdM_take (⟨q4.l, bb⟩ : Rd) wEnd
        refine ⟨(⟨q4.l, bb⟩ : Rd).take wEnd, fs ++ [FieldD.mk id nme ⟨#[]⟩ ki ri], gs, Value.slice A8 n8 c8, vg, k2, h20, hX20, hZ20, hO20, hP20, hG20, (show _ ∧ _ from ⟨hs.take _, hk1, by dsimp only at hm; simp; omega, ?_, by rw [i5, hk2]⟩)⟩
        intro x hx
        rcases List.mem_append.1 hx with hx | hx
        ·exact i4 x hx
        ·rw [List.mem_singleton.1 hx]; exact hqf
       case measure =>
        have hm := rdM_field Hbad.out
        rw [Hf2.out] at hm
        have hm3 := rdM_take (⟨q4.l, bb⟩ : Rd) wEnd
        have e1 := H20.out
        have e2 := hM.out
        dsimp only at hm
        omega
      ·have Hf2 : Hid (fieldRF q = (⟨id, nme, ty, 0, ri⟩, ⟨q4.l, bb⟩)) := by show _ = _; rw [Hf1.out, if_neg hk0, if_neg hk0]
       have hk1 : ki ≤ 0 := by omega
       clear hk0
       obtain ⟨w16, hw16⟩ : ∃ x, x = w15 := ⟨_, rfl⟩
       subst hw16
       have h16 := hRd
       have hF16 := hFd
       have hX16 := hXd
       have hZ16 := hZd
       have hO16 := hOd
       have hP16 := hPd
       have hG16 := hGd
       clear hRd hFd hXd hZd hOd hPd hGd
       go_upto_region 16 with fail
       clear hk1
       obtain ⟨A6, p6, hv6, -⟩ := hO16.form
       have hOl := hO16
       subst hv6
       obtain ⟨d0, d1, d2, d3, d4⟩ := hF16.five
       have x2 := hX16.cell 2
       simp only [List.getElem?_cons_zero, List.getElem?_cons_succ] at x2
       have lF := hF16.lt
       have lX := hX16.lt
       have fX := hX16.frozen 2
       have h17 := h16.keep (Keep.alloc _ w16 (.cells #[.int .i64 id, .string nme, .string ty, .int .i64 0, .int .i64 ri] 44))
       have hB17 := Box.new w16 44 [.int .i64 id, .string nme, .string ty, .int .i64 0, .int .i64 ri]
       have hX17 := hX16.alloc (.cells #[.int .i64 id, .string nme, .string ty, .int .i64 0, .int .i64 ri] 44)
       have hZ17 := hZ16.alloc (.cells #[.int .i64 id, .string nme, .string ty, .int .i64 0, .int .i64 ri] 44)
       have hO17 := hO16.alloc RField.fair (.cells #[.int .i64 id, .string nme, .string ty, .int .i64 0, .int .i64 ri] 44)
       have hP17 := hP16.alloc RInt.fair (.cells #[.int .i64 id, .string nme, .string ty, .int .i64 0, .int .i64 ri] 44)
       have hG17 := grown_alloc hG16 (.cells #[.int .i64 id, .string nme, .string ty, .int .i64 0, .int .i64 ri] 44)
       clear h16 hF16 hX16 hZ16 hO16 hP16 hG16 hOl
       go_wp2_with (at_builtin; go_must (refine wl_append _ rfl (.tmp 80) (.tmp 82) rfl sl_fields2 RField.fair rfl rfl hO17 (Src.one (es := [.int .i64 id, .string nme, .string ty, .int .i64 0, .int .i64 ri]) (y := FieldD.mk id nme ty 0 ri) rfl (Ones.of_all rfl) rfl hB17.lies) (NoT.lt _) ?_ ?_ ?_))
       ·have := HI.out.2.2.1; (try simp); omega
       ·exact hG17.size
       intro v8 w18 hO18 hg18 hv8
       clear hv8
       obtain ⟨A8, c8, hv8, -⟩ := hO18.form
       subst hv8
       generalize (fs ++ [FieldD.mk id nme ty 0 ri]).length = n8 at hO18 ⊢
       have h18 := h17.grown hg18 (fun k e => by have := (hO17.lt e).1; exact ⟨fun hk => by have := HSw.out k hk; omega, by omega⟩)
       have hX18 := hX17.grown hg18 (hX17.ne_own hO17 (by decide))
       have hZ18 := hZ17.grown hg18 (hZ17.ne_own hO17 (by decide))
       have hP18 := hP17.kept RInt.fair hg18 (own_ne hP17 hO17 (by decide)) (fun _ _ h => h)
       have hG18 := grown_via hG17 hg18 (.inr (fun k e => (hO17.lt e).1))
       have x2 := hX18.cell 2
       have lX := hX18.lt
       have fX := hX18.frozen 2
       have hnX : ¬ (S X ∨ X = g) := fun h => h.elim (fun h => by have := HSw.out X h; omega) (fun h => by omega)
       have h19 := h18.keep (Keep.setCell w18 (a := ⟨X, 2, none⟩) (Value.slice A8 n8 c8) hnX)
       have hO19 := hO18.setCell RField.fair (p := ⟨X, 2, none⟩) (Value.slice A8 n8 c8) (hX18.ne_own hO18 (by decide)) (fun h => h)
       have hP19 := hP18.setCell RInt.fair (p := ⟨X, 2, none⟩) (Value.slice A8 n8 c8) (hX18.ne_own hP18 (by decide)) (fun h => h)
       have hX19 := hX18.set_ 2 (Value.slice A8 n8 c8)
       have hZ19 := hZ18.far (p := ⟨X, 2, none⟩) (show w.heap.size ≠ X by omega) (Value.slice A8 n8 c8)
       have hG19 := grown_setCell hG18 (p := ⟨X, 2, none⟩) (.inr (show w.heap.size ≤ X by omega)) (Value.slice A8 n8 c8)
       clear h17 hX17 hZ17 hO17 hP17 hG17 hg18 h18 hX18 hZ18 hO18 hP18 hG18 hnX hB17
       go_wp2_with fail
       refine (htake.out _ wEnd _ h19).mono ?_
       rintro e w20 ⟨rfl, h20, hg20⟩
       have hneO9 : (Value.slice A8 n8 c8).ownBlock ≠ some g := fun e => by have := (hO19.lt e).1; omega
       have hX20 := hX19.grown hg20 (by intro e; injection e with e; omega)
       have hZ20 := hZ19.grown hg20 (by intro e; injection e with e; omega)
       have hO20 := hO19.kept RField.fair hg20 (.inr hneO9) (fun _ _ h => h)
       have hP20 := hP19.kept RInt.fair hg20 (.inr hneP) (fun _ _ h => h)
       have hG20 := grown_via hG19 hg20 (.inl rfl)
       have H20 := Lib.hid h20.m
       clear h19 hX19 hZ19 hO19 hP19 hG19 hg20 x2 lX fX d0 d1 d2 d3 d4 lF
       go_wp2_with fail
       go_roundw
       case rel =>
        obtain ⟨i1, i2, i3, i4, i5⟩ := HI.out
        obtain ⟨k2, hk1, hk2⟩ := lines_field (fs := fs) (gs := gs) Hbad.out Hq.out Hq2.out i2
        have hm := rdM_field Hbad.out
        have hs := i1.field
        have hqf := field_q i1
        rw [Hf2.out] at hk1 hk2 hm hs hqf
        have hm3 := rdM_take (⟨q4.l, bb⟩ : Rd) wEnd
        refine ⟨(⟨q4.l, bb⟩ : Rd).take wEnd, fs ++ [FieldD.mk id nme ty 0 ri], gs, Value.slice A8 n8 c8, vg, k2, h20, hX20, hZ20, hO20, hP20, hG20, (show _ ∧ _ from ⟨hs.take _, hk1, by dsimp only at hm; simp; omega, ?_, by rw [i5, hk2]⟩)⟩
        intro x hx
        rcases List.mem_append.1 hx with hx | hx
        ·exact i4 x hx
        ·rw [List.mem_singleton.1 hx]; exact hqf
       case measure =>
        have hm := rdM_field Hbad.out
        rw [Hf2.out] at hm
        have hm3 := rdM_take (⟨q4.l, bb⟩ : Rd) wEnd
        have e1 := H20.out
        have e2 := hM.out
        dsimp only at hm
        omega
end Go.Proofs.YtfobdbhmfohfnaaGreatDoor
